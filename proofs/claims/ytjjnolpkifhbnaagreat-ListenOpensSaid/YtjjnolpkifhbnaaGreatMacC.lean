/- Sums with a key: the reference's; texts compared. No conditions. -/
import Derived.Test.YtjjnolpkifhbnaaGreatMacB
namespace Go.Proofs.YtjjnolpkifhbnaaGreat
set_option linter.unusedVariables false
set_option linter.unusedSimpArgs false
open Go.RowKit Sym Sha Go.ChangeShapes Go.WideShapes Go.ChangeMaps

/-! mac.Same -/
def apart (a b : ByteArray) : Nat → UInt8
  | 0 => 0
  | i + 1 => apart a b i ||| (a.data.toList.getD i 0 ^^^ b.data.toList.getD i 0)
theorem apart_zero (a b : ByteArray) : ∀ i, apart a b i = 0 ↔ ∀ j, j < i → a.data.toList.getD j 0 = b.data.toList.getD j 0
  | 0 => ⟨fun _ j h => absurd h (Nat.not_lt_zero _), fun _ => rfl⟩
  | i + 1 => by
    show (apart a b i ||| _) = 0 ↔ _
    rw [UInt8.or_eq_zero_iff, UInt8.xor_eq_zero_iff, apart_zero a b i]
    constructor
    · rintro ⟨h1, h2⟩ j hj
      by_cases e : j = i
      · subst e; exact h2
      · exact h1 j (by omega)
    · intro h
      exact ⟨fun j hj => h j (by omega), h i (by omega)⟩
theorem apart_eq (a b : ByteArray) (h : a.size = b.size) : apart a b a.size = 0 ↔ a = b := by
  rw [apart_zero]
  constructor
  · intro hh
    apply ByteArray.ext
    apply Array.toList_inj.1
    apply List.ext_getElem
    · simpa using h
    · intro i h1 h2
      have := hh i (by simpa using h1)
      rw [List.getD_eq_getElem?_getD, List.getD_eq_getElem?_getD, List.getElem?_eq_getElem h1, List.getElem?_eq_getElem h2] at this
      exact this
  · rintro rfl j _; rfl
theorem stS_step (a b : ByteArray) (hs : a.size ≤ maxLen) (hab : a.size = b.size) : ∀ i : Nat, i ≤ a.size → i ≠ a.size → (roundM Tryz.prog (onlyS Tryz.prog noS) noL 29 0 (loopAt Tryz.f56 0) 0 [0, 1, 5, 13, 14] [] [] (stS a b (apart a b i).toNat (i : Nat))).ok fun r => r.1 = .normal ∧ ∃ j, j ≤ a.size ∧ a.size - j < a.size - i ∧ r.2 = stS a b (apart a b j).toNat (j : Nat) := by
  intro i hi hne
  unfold maxLen at hs
  have hlt : i < a.size := by omega
  rw [stS_round]
  refine ⟨fun _ => ⟨by omega, by omega, rfl, i + 1, by omega, by omega, ?_⟩, fun h => by simp at h; omega⟩
  have e : ∀ s : ByteArray, byteAt s (i : Nat) = (((s.data.toList.getD i 0).toNat : Nat) : Int) := fun s => by unfold byteAt; rw [Int.toNat_natCast]
  rw [e a, e b, xor8, or8, w64 ((i : Int) + 1) (by omega) (by omega)]
  rfl
def LSame (P : Program) (S : Tab) (fn : Func) (a b : ByteArray) : Nat → St → Option (T (Ex × St)) :=
  addL 0 (fun st => .need (a.size ≤ maxLen ∧ a.size = b.size) (.need (st.H.length = 0) (.need (st.tidy 0 [0, 1, 5, 13, 14] [] [] = stS a b (apart a b 0).toNat (0 : Nat)) ((roundM P (onlyS P S) noL 29 0 (loopAt fn 0) 0 [0, 1, 5, 13, 14] [] [] (closeAt [] (stS a b (apart a b a.size).toNat (a.size : Nat)))).bind (lastX 0))))) noL
set_option maxRecDepth 100000 in
theorem same_run (a b : ByteArray) : runV Tryz.prog (onlyS Tryz.prog noS) (LSame Tryz.prog noS Tryz.f56 a b) Tryz.f56 [.string a, .string b] = .ite (!decide ((↑a.size : Int) = (↑b.size : Int))) (.leaf (Value.bool false)) (.need (a.size ≤ maxLen ∧ a.size = b.size) (.need (0 = 0) (.need (St.mk [(0, some (.v (.string a))), (1, some (.v (.string b))), (5, some (.v (.int .u8 0))), (13, some (.v (.int .i64 (↑a.size : Int)))), (14, some (.v (.int .i64 0)))] [] = stS a b (↑(apart a b 0).toNat : Int) (0 : Int)) (.ite (decide ((↑a.size : Int) < (↑a.size : Int))) (.need ((0 : Int) ≤ (↑a.size : Int) ∧ (↑a.size : Int) < (↑a.size : Int)) (.need ((0 : Int) ≤ (↑a.size : Int) ∧ (↑a.size : Int) < (↑b.size : Int)) (T.stuck 39))) (.leaf (Value.bool (decide ((↑(apart a b a.size).toNat : Int) = (0 : Int))))))))) := by kernel_rfl
theorem mac_Same (a b : ByteArray) (hs : a.size ≤ maxLen) (w : World) : Calls Tryz.prog 56 #[.string a, .string b] w fun e w' => e = .returned (.bool (decide (a = b))) ∧ Below w.heap.size w w' := by
  refine calls_runV (onlyS_ok noS_ok) follows Tryz.func56 (by kernel_rfl) (by kernel_rfl) (one_loop (b := loopAt Tryz.f56 0) (id := 0) (by kernel_rfl) fun st t h => ?_) (same_run a b) ?_ w
  · rw [addL_same h]
    exact .need fun ⟨h1, h2⟩ => loop_cnt (onlyS_ok noS_ok) follows (by kernel_rfl) (noloops (by kernel_rfl)) (fun i : Nat => i ≤ a.size) (fun i => stS a b (apart a b i).toNat (i : Nat)) (fun i => a.size - i) 0 [0, 1, 5, 13, 14] [] [] a.size [] (stS_step a b h1 h2) (Nat.zero_le _)
  · have hz : (((apart a b a.size).toNat : Nat) : Int) = 0 ↔ apart a b a.size = 0 := by
      rw [Int.natCast_eq_zero, ← UInt8.toNat_inj]; rfl
    refine ⟨fun h => ?_, fun h => ⟨⟨hs, ?_⟩, rfl, rfl, (fun h => ?_), fun _ => ?_⟩⟩
    · have hn : ¬ a = b := fun e => ndt h (by rw [e])
      show Value.bool false = _
      rw [decide_eq_false hn]
    · have := ndf h; omega
    · have := of_decide_eq_true h; omega
    · have hab : a.size = b.size := by have := ndf h; omega
      show Value.bool _ = _
      congr 1
      rw [decide_eq_decide, hz, apart_eq a b hab]
/-! the reference's turned -/
def turned (n : UInt8) (s : ByteArray) (i : Nat) : ByteArray := ba (Mac.turn n (s.data.toList.take i))
theorem stU_step (s : ByteArray) (n : UInt8) (hs : s.size ≤ maxLen) : ∀ i : Nat, i ≤ s.size → i ≠ s.size → (roundM Tryz.prog (onlyS Tryz.prog noS) noL 23 0 (loopAt Tryz.f100 0) 0 [0, 1, 5, 6] [] [] (stU s n.toNat (turned n s i) (i : Nat))).ok fun r => r.1 = .normal ∧ ∃ j, j ≤ s.size ∧ s.size - j < s.size - i ∧ r.2 = stU s n.toNat (turned n s j) (j : Nat) := by
  intro i hi hne
  unfold maxLen at hs
  have hlt : i < s.size := by omega
  have hl : i < s.data.toList.length := by simpa using hlt
  rw [stU_round]
  have e : ∀ s : ByteArray, byteAt s (i : Nat) = (((s.data.toList.getD i 0).toNat : Nat) : Int) := fun s => by unfold byteAt; rw [Int.toNat_natCast]
  have e1 : (turned n s i).size = i := by unfold turned; rw [ba_len]; simp only [Mac.turn, List.length_map, List.length_take]; omega
  have e2 : Sym.strOf [Value.int .u8 (((s.data.toList.getD i 0 ^^^ n).toNat : Nat) : Int)] = [s.data.toList.getD i 0 ^^^ n] := strOf_bytesV [_]
  simp only [e, xor8, e2]
  refine ⟨fun _ => ⟨by omega, ?_, ?_, rfl, i + 1, by omega, by omega, ?_⟩, fun h => by simp at h; omega⟩
  · show [Value.int .u8 (((s.data.toList.getD i 0 ^^^ n).toNat : Nat) : Int)] = bytesV (Sym.strOf [Value.int .u8 (((s.data.toList.getD i 0 ^^^ n).toNat : Nat) : Int)])
    rw [e2]; rfl
  · rw [e1]; show i + 1 ≤ _; omega
  · rw [w64 ((i : Int) + 1) (by omega) (by omega)]
    have : turned n s i ++ ByteArray.mk (Array.mk [s.data.toList.getD i 0 ^^^ n]) = turned n s (i + 1) := by
      unfold turned
      show ba _ ++ ba [_] = _
      rw [ba_append, List.take_succ_eq_append_getElem hl, List.getD_eq_getElem?_getD, List.getElem?_eq_getElem hl]
      simp only [Mac.turn, List.map_append, List.map_cons, List.map_nil, Option.getD_some]
    rw [this]
    rfl
def LTurn (P : Program) (S : Tab) (fn : Func) (n : UInt8) : Nat → St → Option (T (Ex × St)) :=
  addL 0 (fun st => withStr st 0 fun s => .need (s.size ≤ maxLen) (.need (st.H.length = 0) (.need (st.tidy 0 [0, 1, 5, 6] [] [] = stU s n.toNat (turned n s 0) (0 : Nat)) ((roundM P (onlyS P S) noL 23 0 (loopAt fn 0) 0 [0, 1, 5, 6] [] [] (closeAt [] (stU s n.toNat (turned n s s.size) (s.size : Nat)))).bind (lastX 0))))) noL
set_option maxRecDepth 100000 in
theorem turn06_run (s : ByteArray) (n : UInt8) : runV Tryz.prog (onlyS Tryz.prog noS) (LTurn Tryz.prog noS Tryz.f100 n) Tryz.f100 [.string s, .int .u8 n.toNat] = .need (s.size ≤ 9223372036854775807) (.need (0 = 0) (.need (St.mk [(0, some (.v (.string s))), (1, some (.v (.int .u8 (↑n.toNat : Int)))), (5, some (.v (.string (ByteArray.mk (Array.mk []))))), (6, some (.v (.int .i64 0)))] [] = stU s (↑n.toNat : Int) (turned n s 0) (0 : Int)) (.ite (decide ((↑s.size : Int) < (↑s.size : Int))) (.need ((0 : Int) ≤ (↑s.size : Int) ∧ (↑s.size : Int) < (↑s.size : Int)) (.need ([Value.int IntKind.u8 (IntKind.u8.wrap (↑(Nat.bitwise bne (byteAt s (↑s.size : Int) % (256 : Int)).toNat ((↑n.toNat : Int) % (256 : Int)).toNat) : Int))] = [Value.int IntKind.u8 (↑(UInt8.ofBitVec (BitVec.ofFin (Fin.mk ((IntKind.u8.wrap (↑(Nat.bitwise bne (byteAt s (↑s.size : Int) % (256 : Int)).toNat ((↑n.toNat : Int) % (256 : Int)).toNat) : Int)).toNat.mod 256) (Nat.mod_lt (IntKind.u8.wrap (↑(Nat.bitwise bne (byteAt s (↑s.size : Int) % (256 : Int)).toNat ((↑n.toNat : Int) % (256 : Int)).toNat) : Int)).toNat (BitVec.ofNat._proof_1 8))))).toNat : Int)]) (.need ((turned n s s.size).size + (ByteArray.mk (Array.mk (Sym.strOf [Value.int IntKind.u8 (IntKind.u8.wrap (↑(Nat.bitwise bne (byteAt s (↑s.size : Int) % (256 : Int)).toNat ((↑n.toNat : Int) % (256 : Int)).toNat) : Int))]))).size ≤ 9223372036854775807) (T.stuck 39)))) (.leaf (Value.string (turned n s s.size)))))) := by kernel_rfl
theorem ref06_turned (s : ByteArray) (n : UInt8) (hs : s.size ≤ maxLen) (w : World) : Calls Tryz.prog 100 #[.string s, .int .u8 n.toNat] w fun e w' => e = .returned (.string (ba (Mac.turn n s.data.toList))) ∧ Below w.heap.size w w' := by
  refine calls_runV (onlyS_ok noS_ok) follows Tryz.func100 (by kernel_rfl) (by kernel_rfl) (one_loop (b := loopAt Tryz.f100 0) (id := 0) (by kernel_rfl) fun st t h => ?_) (turn06_run s n) ?_ w
  · rw [addL_same h]
    exact .str fun s => .need fun h1 => loop_cnt (onlyS_ok noS_ok) follows (by kernel_rfl) (noloops (by kernel_rfl)) (fun i : Nat => i ≤ s.size) (fun i => stU s n.toNat (turned n s i) (i : Nat)) (fun i => s.size - i) 0 [0, 1, 5, 6] [] [] s.size [] (stU_step s n h1) (Nat.zero_le _)
  · refine ⟨hs, rfl, rfl, (fun h => ?_), fun _ => ?_⟩
    · have := of_decide_eq_true h; omega
    · show Value.string (turned n s s.size) = _
      unfold turned
      rw [List.take_of_length_le (by simp)]
def tTurned06 : List Value → Option (List Prop × Value) | [.string s, .int .u8 z] => some ([s.size ≤ maxLen ∧ 0 ≤ z ∧ z < 256], .string (ba (Mac.turn (UInt8.ofNat z.toNat) s.data.toList))) | _ => none
theorem turned06_tab (s : ByteArray) (z : Int) (h : s.size ≤ maxLen ∧ 0 ≤ z ∧ z < 256) (w : World) : Calls Tryz.prog 100 #[.string s, .int .u8 z] w fun e w' => e = .returned (.string (ba (Mac.turn (UInt8.ofNat z.toNat) s.data.toList))) ∧ Below w.heap.size w w' := by
  have hz : z = ((UInt8.ofNat z.toNat).toNat : Int) := by rw [UInt8.toNat_ofNat']; omega
  generalize UInt8.ofNat z.toNat = n at hz
  subst hz
  exact ref06_turned s n h.1 w
def tSame : List Value → Option (List Prop × Value) | [.string a, .string b] => some ([a.size ≤ maxLen], .bool (decide (a = b))) | _ => none
def SMac1  : Tab := addS 56 tSame <| addS 100 tTurned06 <| SSha9
theorem SMac1_ok : TabOk Tryz.prog (SMac1) := by
  refine addS_ok (addS_ok (SSha9_ok) (by kernel_rfl) ?_) (by kernel_rfl) ?_
  · (intro xs p v h hp w; unfold tTurned06 at h; (split at h) <;> first | (cases h; done) | (simp only [Option.some.injEq, Prod.mk.injEq] at h; obtain ⟨rfl, rfl⟩ := h; exact turned06_tab _ _ (hp _ (List.mem_cons_self ..)) w))
  · (intro xs p v h hp w; unfold tSame at h; (split at h) <;> first | (cases h; done) | (simp only [Option.some.injEq, Prod.mk.injEq] at h; obtain ⟨rfl, rfl⟩ := h; exact mac_Same _ _ (hp _ (List.mem_cons_self ..)) w))
/-! the reference's sum with a key -/
def stKI (k all : ByteArray) (i : Nat) : St := stK (k ++ ba (List.replicate i 0)) all
theorem stKI_step (k all : ByteArray) (hk : k.size ≤ 64) : ∀ i : Nat, i ≤ 64 - k.size → i ≠ 64 - k.size → (roundM Tryz.prog (onlyS Tryz.prog noS) noL 24 0 (loopAt Tryz.f77 0) 0 [0, 1] [] [] (stKI k all i)).ok fun r => r.1 = .normal ∧ ∃ j, j ≤ 64 - k.size ∧ 64 - k.size - j < 64 - k.size - i ∧ r.2 = stKI k all j := by
  intro i hi hne
  have e : (k ++ ba (List.replicate i 0)).size = k.size + i := by rw [ByteArray.size_append, ba_len, List.length_replicate]
  unfold stKI
  rw [stK_round]
  refine ⟨fun _ => ⟨by omega, rfl, i + 1, by omega, by omega, ?_⟩, fun h => ?_⟩
  · show stK (k ++ ba (List.replicate i 0) ++ ba [0]) all = _
    rw [List.replicate_succ', ← ba_append, ByteArray.append_assoc]
  · have := of_decide_eq_false h; omega
def LKey (P : Program) (S : Tab) (fn : Func) : Nat → St → Option (T (Ex × St)) :=
  addL 0 (fun st => withStr st 0 fun k => withStr st 1 fun all => .need (k.size ≤ 64) (.need (st.H.length = 0) (.need (st.tidy 0 [0, 1] [] [] = stKI k all 0) ((roundM P (onlyS P S) noL 24 0 (loopAt fn 0) 0 [0, 1] [] [] (closeAt [] (stKI k all (64 - k.size)))).bind (lastX 0))))) noL
set_option maxRecDepth 100000 in
theorem of06_run (key all : ByteArray) : runV Tryz.prog (onlyS Tryz.prog SMac1) (LKey Tryz.prog noS Tryz.f77) Tryz.f77 [.string key, .string all] = .ite (decide ((↑key.size : Int) > (64 : Int))) (.need (key.size ≤ 1000000000000) (.need ((shaOf key).size ≤ 64) (.need (0 = 0) (.need (St.mk [(0, some (.v (.string (shaOf key)))), (1, some (.v (.string all)))] [] = stKI (shaOf key) all 0) (.ite (decide ((↑(shaOf key ++ ba (List.replicate (64 - (shaOf key).size) (UInt8.ofBitVec (BitVec.ofFin (Fin.mk 0 (Nat.mod_lt 0 (BitVec.ofNat._proof_1 8))))))).size : Int) < (64 : Int))) (.need ((shaOf key ++ ba (List.replicate (64 - (shaOf key).size) (UInt8.ofBitVec (BitVec.ofFin (Fin.mk 0 (Nat.mod_lt 0 (BitVec.ofNat._proof_1 8))))))).size + 1 ≤ 9223372036854775807) (T.stuck 39)) (.need ((shaOf key ++ ba (List.replicate (64 - (shaOf key).size) (0 : UInt8))).size ≤ maxLen ∧ (0 : Int) ≤ (92 : Int) ∧ (92 : Int) < (256 : Int)) (.need ((shaOf key ++ ba (List.replicate (64 - (shaOf key).size) (0 : UInt8))).size ≤ maxLen ∧ (0 : Int) ≤ (54 : Int) ∧ (54 : Int) < (256 : Int)) (.need ((ba (Mac.turn (UInt8.ofBitVec (BitVec.ofFin (Fin.mk 54 (Nat.mod_lt 54 (BitVec.ofNat._proof_1 8))))) (Array.mk ((shaOf key).1.toList ++ (ba (List.replicate (64 - (shaOf key).size) (0 : UInt8))).1.toList)).toList)).size + all.size ≤ 9223372036854775807) (.need ((ba (Mac.turn (UInt8.ofBitVec (BitVec.ofFin (Fin.mk 54 (Nat.mod_lt 54 (BitVec.ofNat._proof_1 8))))) (Array.mk ((shaOf key).1.toList ++ (ba (List.replicate (64 - (shaOf key).size) (0 : UInt8))).1.toList)).toList) ++ all).size ≤ 1000000000000) (.need ((ba (Mac.turn (UInt8.ofBitVec (BitVec.ofFin (Fin.mk 92 (Nat.mod_lt 92 (BitVec.ofNat._proof_1 8))))) (Array.mk ((shaOf key).1.toList ++ (ba (List.replicate (64 - (shaOf key).size) (0 : UInt8))).1.toList)).toList)).size + (shaOf (ba (Mac.turn (UInt8.ofBitVec (BitVec.ofFin (Fin.mk 54 (Nat.mod_lt 54 (BitVec.ofNat._proof_1 8))))) (Array.mk ((shaOf key).1.toList ++ (ba (List.replicate (64 - (shaOf key).size) (0 : UInt8))).1.toList)).toList) ++ all)).size ≤ 9223372036854775807) (.need ((ba (Mac.turn (UInt8.ofBitVec (BitVec.ofFin (Fin.mk 92 (Nat.mod_lt 92 (BitVec.ofNat._proof_1 8))))) (Array.mk ((shaOf key).1.toList ++ (ba (List.replicate (64 - (shaOf key).size) (0 : UInt8))).1.toList)).toList) ++ shaOf (ba (Mac.turn (UInt8.ofBitVec (BitVec.ofFin (Fin.mk 54 (Nat.mod_lt 54 (BitVec.ofNat._proof_1 8))))) (Array.mk ((shaOf key).1.toList ++ (ba (List.replicate (64 - (shaOf key).size) (0 : UInt8))).1.toList)).toList) ++ all)).size ≤ 1000000000000) (.leaf (Value.string (shaOf (ba (Mac.turn (UInt8.ofBitVec (BitVec.ofFin (Fin.mk 92 (Nat.mod_lt 92 (BitVec.ofNat._proof_1 8))))) (Array.mk ((shaOf key).1.toList ++ (ba (List.replicate (64 - (shaOf key).size) (0 : UInt8))).1.toList)).toList) ++ shaOf (ba (Mac.turn (UInt8.ofBitVec (BitVec.ofFin (Fin.mk 54 (Nat.mod_lt 54 (BitVec.ofNat._proof_1 8))))) (Array.mk ((shaOf key).1.toList ++ (ba (List.replicate (64 - (shaOf key).size) (0 : UInt8))).1.toList)).toList) ++ all)))))))))))))))) (.need (key.size ≤ 64) (.need (0 = 0) (.need (St.mk [(0, some (.v (.string key))), (1, some (.v (.string all)))] [] = stKI key all 0) (.ite (decide ((↑(key ++ ba (List.replicate (64 - key.size) (UInt8.ofBitVec (BitVec.ofFin (Fin.mk 0 (Nat.mod_lt 0 (BitVec.ofNat._proof_1 8))))))).size : Int) < (64 : Int))) (.need ((key ++ ba (List.replicate (64 - key.size) (UInt8.ofBitVec (BitVec.ofFin (Fin.mk 0 (Nat.mod_lt 0 (BitVec.ofNat._proof_1 8))))))).size + 1 ≤ 9223372036854775807) (T.stuck 39)) (.need ((key ++ ba (List.replicate (64 - key.size) (0 : UInt8))).size ≤ maxLen ∧ (0 : Int) ≤ (92 : Int) ∧ (92 : Int) < (256 : Int)) (.need ((key ++ ba (List.replicate (64 - key.size) (0 : UInt8))).size ≤ maxLen ∧ (0 : Int) ≤ (54 : Int) ∧ (54 : Int) < (256 : Int)) (.need ((ba (Mac.turn (UInt8.ofBitVec (BitVec.ofFin (Fin.mk 54 (Nat.mod_lt 54 (BitVec.ofNat._proof_1 8))))) (Array.mk (key.1.toList ++ (ba (List.replicate (64 - key.size) (0 : UInt8))).1.toList)).toList)).size + all.size ≤ 9223372036854775807) (.need ((ba (Mac.turn (UInt8.ofBitVec (BitVec.ofFin (Fin.mk 54 (Nat.mod_lt 54 (BitVec.ofNat._proof_1 8))))) (Array.mk (key.1.toList ++ (ba (List.replicate (64 - key.size) (0 : UInt8))).1.toList)).toList) ++ all).size ≤ 1000000000000) (.need ((ba (Mac.turn (UInt8.ofBitVec (BitVec.ofFin (Fin.mk 92 (Nat.mod_lt 92 (BitVec.ofNat._proof_1 8))))) (Array.mk (key.1.toList ++ (ba (List.replicate (64 - key.size) (0 : UInt8))).1.toList)).toList)).size + (shaOf (ba (Mac.turn (UInt8.ofBitVec (BitVec.ofFin (Fin.mk 54 (Nat.mod_lt 54 (BitVec.ofNat._proof_1 8))))) (Array.mk (key.1.toList ++ (ba (List.replicate (64 - key.size) (0 : UInt8))).1.toList)).toList) ++ all)).size ≤ 9223372036854775807) (.need ((ba (Mac.turn (UInt8.ofBitVec (BitVec.ofFin (Fin.mk 92 (Nat.mod_lt 92 (BitVec.ofNat._proof_1 8))))) (Array.mk (key.1.toList ++ (ba (List.replicate (64 - key.size) (0 : UInt8))).1.toList)).toList) ++ shaOf (ba (Mac.turn (UInt8.ofBitVec (BitVec.ofFin (Fin.mk 54 (Nat.mod_lt 54 (BitVec.ofNat._proof_1 8))))) (Array.mk (key.1.toList ++ (ba (List.replicate (64 - key.size) (0 : UInt8))).1.toList)).toList) ++ all)).size ≤ 1000000000000) (.leaf (Value.string (shaOf (ba (Mac.turn (UInt8.ofBitVec (BitVec.ofFin (Fin.mk 92 (Nat.mod_lt 92 (BitVec.ofNat._proof_1 8))))) (Array.mk (key.1.toList ++ (ba (List.replicate (64 - key.size) (0 : UInt8))).1.toList)).toList) ++ shaOf (ba (Mac.turn (UInt8.ofBitVec (BitVec.ofFin (Fin.mk 54 (Nat.mod_lt 54 (BitVec.ofNat._proof_1 8))))) (Array.mk (key.1.toList ++ (ba (List.replicate (64 - key.size) (0 : UInt8))).1.toList)).toList) ++ all))))))))))))))) := by kernel_rfl
end Go.Proofs.YtjjnolpkifhbnaaGreat
