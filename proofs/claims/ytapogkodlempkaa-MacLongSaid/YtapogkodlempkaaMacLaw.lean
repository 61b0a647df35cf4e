/- The laws of layer 6 (mac), walked. No conditions. -/
import Derived.Test.YtapogkodlempkaaMacG
namespace Go.Proofs.Ytapogkodlempkaa
set_option linter.unusedVariables false
set_option linter.unusedSimpArgs false
open Go.RowKit Sym Sha Go.ChangeShapes Go.WideShapes Go.ChangeMaps

set_option maxRecDepth 100000 in
theorem macTells_run (a b : ByteArray) (place size : Int) : runV Try.prog (onlyS Try.prog SMac3) noL Try.f7 [.string a, .string b, .int .i64 place, .int .i64 size] = T.ite false (T.leaf (Value.bool false)) (T.ite (decide ((↑a.size : Int) > (300 : Int))) (T.leaf (Value.bool true)) (T.ite (decide ((↑b.size : Int) > (300 : Int))) (T.leaf (Value.bool true)) (T.need (a.size ≤ (9223372036854775807 : Nat)) (T.ite (decide (decide (a = b) = decide (a = b))) (T.need (a.size ≤ (9223372036854775807 : Nat)) (T.ite (decide (a = a)) (T.need (a.size ≤ (1000000000000 : Nat)) (T.need (a.size ≤ (1000000000000 : Nat)) (T.ite (decide (tokenOf a = tokenOf a)) (T.need (a.size ≤ (1000000000000 : Nat)) (T.need (a.size ≤ (1000000000000 : Nat)) (T.leaf (Value.bool (decide (drawOf a place size = drawOf a place size)))))) (T.leaf (Value.bool false))))) (T.leaf (Value.bool false)))) (T.leaf (Value.bool false)))))) := by kernel_rfl
set_option maxRecDepth 100000 in
theorem macLong_run (key : ByteArray) (n : Int) (s : ByteArray) : runV Try.prog (CL Try.prog SMac3) noL Try.f6 [.string key, .int .u8 n, .string s] = T.ite false (T.leaf (Value.bool false)) (T.ite (decide ((↑key.size : Int) > (300 : Int))) (T.leaf (Value.bool true)) (T.ite (decide ((↑s.size : Int) > (300 : Int))) (T.leaf (Value.bool true)) (T.need ((0 : Int) ≤ (IntKind.i64.wrap n).tmod (65 : Int) ∧ (IntKind.i64.wrap n).tmod (65 : Int) ≤ (9223372036854775807 : Int) ∧ Try.prog.types[(5 : Nat)].bytes * ((IntKind.i64.wrap n).tmod (65 : Int)).toNat ≤ (281474976710656 : Nat)) (T.need (List.replicate ((IntKind.i64.wrap n).tmod (65 : Int)).toNat (Value.int IntKind.u8 (0 : Int)) = bytesV (Sym.strOf (List.replicate ((IntKind.i64.wrap n).tmod (65 : Int)).toNat (Value.int IntKind.u8 (0 : Int))))) (T.need (key.size + (ByteArray.mk (Array.mk (Sym.strOf (List.replicate ((IntKind.i64.wrap n).tmod (65 : Int)).toNat (Value.int IntKind.u8 (0 : Int)))))).size ≤ (9223372036854775807 : Nat)) (T.ite (decide ((↑(key ++ ByteArray.mk (Array.mk (Sym.strOf (List.replicate ((IntKind.i64.wrap n).tmod (65 : Int)).toNat (Value.int IntKind.u8 (0 : Int)))))).size : Int) > (64 : Int))) (T.need ((1 : Nat) ≤ maxLen ∧ (key ++ ByteArray.mk (Sym.strOf (List.replicate ((IntKind.i64.wrap n).tmod (65 : Int)).toNat (Value.int IntKind.u8 (0 : Int)))).toArray).size ≤ (1000000000000 : Nat) ∧ (catL [s]).size ≤ (100000000000 : Nat)) (T.need ((key ++ ByteArray.mk (Sym.strOf (List.replicate ((IntKind.i64.wrap n).tmod (65 : Int)).toNat (Value.int IntKind.u8 (0 : Int)))).toArray).size ≤ (1000000000000 : Nat) ∧ s.size ≤ (100000000000 : Nat)) (T.leaf (Value.bool (decide (macOf (key ++ ByteArray.mk (Array.mk (Sym.strOf (List.replicate ((IntKind.i64.wrap n).tmod (65 : Int)).toNat (Value.int IntKind.u8 (0 : Int)))))) s = macOf (key ++ ByteArray.mk (Array.mk (Sym.strOf (List.replicate ((IntKind.i64.wrap n).tmod (65 : Int)).toNat (Value.int IntKind.u8 (0 : Int)))))) s)))))) (T.need ((1 : Nat) ≤ maxLen ∧ (key ++ ByteArray.mk (Sym.strOf (List.replicate ((IntKind.i64.wrap n).tmod (65 : Int)).toNat (Value.int IntKind.u8 (0 : Int)))).toArray).size ≤ (1000000000000 : Nat) ∧ (catL [s]).size ≤ (100000000000 : Nat)) (T.need ((1 : Nat) ≤ maxLen ∧ key.size ≤ (1000000000000 : Nat) ∧ (catL [s]).size ≤ (100000000000 : Nat)) (T.leaf (Value.bool (decide (macOf (key ++ ByteArray.mk (Array.mk (Sym.strOf (List.replicate ((IntKind.i64.wrap n).tmod (65 : Int)).toNat (Value.int IntKind.u8 (0 : Int)))))) s = macOf key s)))))))))))) := by kernel_rfl
def stL (key : ByteArray) (n : Nat) (g : Nat → ByteArray) (all : ByteArray) (i : Int) : St := ⟨[(0, some (.v (.string key))), (1, some (.ref 0)), (5, some (.v (.string all))), (6, some (.v (.int .i64 i)))], [.row n 1 (fun i _ => .string (g i))]⟩
set_option maxRecDepth 100000 in
theorem stL_round (key : ByteArray) (n : Nat) (g : Nat → ByteArray) (all : ByteArray) (i : Int) : roundM Try.prog (CL Try.prog SMac3) noL 53 0 (loopAt Try.f5 0) 1 [0, 1, 5, 6] [] [] (stL key n g all i) = T.ite (decide (i < (↑n : Int))) (T.ite (decide (i ≥ (20 : Int))) (T.leaf (Ex.ret, St.mk [((4 : Nat), some SV.tt), ((24 : Nat), some SV.tt), ((23 : Nat), some (SV.v (Value.tuple (Array.mk [])))), ((22 : Nat), some (SV.v (Value.tuple (Array.mk [])))), ((21 : Nat), some (SV.v (Value.tuple (Array.mk [])))), ((20 : Nat), some (SV.v (Value.tuple (Array.mk [])))), ((19 : Nat), some (SV.v (Value.tuple (Array.mk [])))), ((18 : Nat), some (SV.v (Value.tuple (Array.mk [])))), ((17 : Nat), some SV.tt), ((16 : Nat), some (SV.v (Value.bool (decide (i ≥ (20 : Int)))))), ((15 : Nat), some (SV.v (Value.int IntKind.i64 i))), ((12 : Nat), some (SV.v (Value.bool (decide (i < (↑n : Int)))))), ((11 : Nat), some (SV.v (Value.int IntKind.i64 (↑n : Int)))), ((10 : Nat), some (SV.ref (0 : Nat))), ((9 : Nat), some (SV.v (Value.int IntKind.i64 i))), ((0 : Nat), some (SV.v (Value.string key))), ((1 : Nat), some (SV.ref (0 : Nat))), ((5 : Nat), some (SV.v (Value.string all))), ((6 : Nat), some (SV.v (Value.int IntKind.i64 i)))] [Blk.row n (1 : Nat) fun i x => Value.string (g i)])) (T.need ((0 : Int) ≤ i ∧ i < (↑n : Int)) (T.need (i.toNat < n) (T.ite (decide ((↑(g i.toNat).size : Int) > (300 : Int))) (T.leaf (Ex.ret, St.mk [((4 : Nat), some SV.tt), ((24 : Nat), some (SV.v (Value.bool (decide ((↑(g i.toNat).size : Int) > (300 : Int)))))), ((23 : Nat), some (SV.v (Value.bool (decide ((↑(g i.toNat).size : Int) > (300 : Int)))))), ((22 : Nat), some (SV.v (Value.int IntKind.i64 (↑(g i.toNat).size : Int)))), ((21 : Nat), some (SV.v (Value.string (g i.toNat)))), ((20 : Nat), some (SV.elt (0 : Nat) (1 : Nat) i.toNat (0 : Nat))), ((19 : Nat), some (SV.v (Value.int IntKind.i64 i))), ((18 : Nat), some (SV.ref (0 : Nat))), ((17 : Nat), some SV.ff), ((16 : Nat), some (SV.v (Value.bool (decide (i ≥ (20 : Int)))))), ((15 : Nat), some (SV.v (Value.int IntKind.i64 i))), ((12 : Nat), some (SV.v (Value.bool (decide (i < (↑n : Int)))))), ((11 : Nat), some (SV.v (Value.int IntKind.i64 (↑n : Int)))), ((10 : Nat), some (SV.ref (0 : Nat))), ((9 : Nat), some (SV.v (Value.int IntKind.i64 i))), ((0 : Nat), some (SV.v (Value.string key))), ((1 : Nat), some (SV.ref (0 : Nat))), ((5 : Nat), some (SV.v (Value.string all))), ((6 : Nat), some (SV.v (Value.int IntKind.i64 i)))] [Blk.row n (1 : Nat) fun i x => Value.string (g i)])) (T.need ((0 : Int) ≤ i ∧ i < (↑n : Int)) (T.need (i.toNat < n) (T.need (all.size + (g i.toNat).size ≤ (9223372036854775807 : Nat)) (T.leaf (Ex.normal, St.mk [((0 : Nat), some (SV.v (Value.string key))), ((1 : Nat), some (SV.ref (0 : Nat))), ((5 : Nat), some (SV.v (Value.string (all ++ g i.toNat)))), ((6 : Nat), some (SV.v (Value.int IntKind.i64 (IntKind.i64.wrap (i + (1 : Int))))))] [Blk.row n (1 : Nat) fun i x => Value.string (g i)]))))))))) (T.leaf (Ex.exit (0 : Nat), St.mk [((0 : Nat), some (SV.v (Value.string key))), ((1 : Nat), some (SV.ref (0 : Nat))), ((5 : Nat), some (SV.v (Value.string all))), ((6 : Nat), some (SV.v (Value.int IntKind.i64 i)))] [Blk.row n (1 : Nat) fun i x => Value.string (g i)])) := by kernel_rfl
theorem macTells_any (a b : ByteArray) (place size : Int) (w : World) : Calls Try.prog 7 #[.string a, .string b, .int .i64 place, .int .i64 size] w fun e w' => e = .returned (.bool true) ∧ Below w.heap.size w w' := by
  refine calls_runV (onlyS_ok SMac3_ok) follows Try.func7 (by kernel_rfl) (by kernel_rfl) noL_ok (macTells_run a b place size) ?_ w
  by_cases ha : (a.size : Int) > 300
  · simp [T.ok, ha]
  · by_cases hb : (b.size : Int) > 300
    · simp [T.ok, ha, hb]
    · have m1 : a.size ≤ 9223372036854775807 := by omega
      have m2 : a.size ≤ 1000000000000 := by omega
      simp [T.ok, ha, hb, m1, m2]
theorem zeros_bytes (m : Nat) : List.replicate m (Value.int .u8 0) = bytesV (List.replicate m 0) := by unfold bytesV; rw [List.map_replicate]; rfl
theorem mac_zeros (key s : ByteArray) (m : Nat) (h : (key ++ ba (List.replicate m 0)).size ≤ 64) : macOf (key ++ ba (List.replicate m 0)) s = macOf key s := by
  have hk : key.size + m ≤ 64 := by rw [ByteArray.size_append, ba_len, List.length_replicate] at h; exact h
  have e : (key ++ ba (List.replicate m 0)).data.toList = key.data.toList ++ List.replicate m 0 := by rw [ByteArray.data_append]; simp [ba]
  unfold macOf Mac.macL
  rw [e, Mac.key64_zeros key.data.toList m (by rw [show key.data.toList.length = key.size by simp]; exact hk)]
set_option maxRecDepth 100000 in
theorem macLong_any (key : ByteArray) (n : Int) (s : ByteArray) (h0 : 0 ≤ n) (h1 : n ≤ 255) (w : World) : Calls Try.prog 6 #[.string key, .int .u8 n, .string s] w fun e w' => e = .returned (.bool true) ∧ Below w.heap.size w w' := by
  refine calls_runV (CL_ok SMac3_ok) follows Try.func6 (by kernel_rfl) (by kernel_rfl) (noloops (by kernel_rfl)) (macLong_run key n s) ?_ w
  have hm : (IntKind.i64.wrap n).tmod 65 = ((n.toNat % 65 : Nat) : Int) := by
    rw [w64 n (by omega) (by omega), Int.tmod_eq_emod_of_nonneg h0]; omega
  have hz : Try.prog.types[(5 : Nat)].bytes = 1 := by kernel_rfl
  rw [hm, Int.toNat_natCast, zeros_bytes, strOf_bytesV, hz]
  generalize hM : n.toNat % 65 = m
  have hM : m < 65 := by omega
  refine ⟨(fun h => by cases h), fun _ => ⟨fun _ => rfl, fun hk => ⟨fun _ => rfl, fun hs => ?_⟩⟩⟩
  have hk := of_decide_eq_false hk
  have hs := of_decide_eq_false hs
  have hc : (key ++ ba (List.replicate m 0)).size = key.size + m := by rw [ByteArray.size_append, ba_len, List.length_replicate]
  have hc2 : (key ++ ByteArray.mk (Array.mk (List.replicate m 0))).size = key.size + m := hc
  refine ⟨⟨by omega, by omega, by omega⟩, rfl, ?_, fun hl => ⟨⟨by decide, ?_, ?_⟩, ⟨?_, ?_⟩, ?_⟩, fun hl => ⟨⟨by decide, ?_, ?_⟩, ⟨by decide, ?_, ?_⟩, ?_⟩⟩
  · show key.size + (ba (List.replicate m 0)).size ≤ _
    rw [ba_len, List.length_replicate]; omega
  · show (key ++ ba (List.replicate m 0)).size ≤ _
    omega
  · show s.size ≤ _
    omega
  · show (key ++ ba (List.replicate m 0)).size ≤ _
    omega
  · omega
  · simp [T.ok]
  · show (key ++ ba (List.replicate m 0)).size ≤ _
    omega
  · show s.size ≤ _
    omega
  · omega
  · show s.size ≤ _
    omega
  · have hl := of_decide_eq_false hl
    have := mac_zeros key s m (by omega)
    show Value.bool (decide (macOf (key ++ ba (List.replicate m 0)) s = macOf key s)) = _
    rw [this]; simp
/-! any parts -/
def early6 (g : Nat → ByteArray) (i : Nat) : Bool := Nat.ble 20 i || Nat.blt 300 (g i).size
theorem early6_no {g : Nat → ByteArray} {i : Nat} (h : early6 g i = false) : i < 20 ∧ (g i).size ≤ 300 := by
  unfold early6 at h
  simp only [Bool.or_eq_false_iff] at h
  obtain ⟨h1, h2⟩ := h
  refine ⟨?_, ?_⟩
  · rw [← Bool.not_eq_true, Nat.ble_eq] at h1; omega
  · rw [← Bool.not_eq_true, Nat.blt_eq] at h2; omega
theorem early6_yes {g : Nat → ByteArray} {i : Nat} (h : early6 g i = true) : ¬ (i < 20 ∧ (g i).size ≤ 300) := by
  unfold early6 at h
  simp only [Bool.or_eq_true, Nat.ble_eq, Nat.blt_eq] at h
  omega
theorem catR_bound (g : Nat → ByteArray) (k : Nat) : ∀ i, (∀ j, j < i → (g j).size ≤ k) → (catR g i).size ≤ k * i
  | 0, _ => Nat.zero_le _
  | i + 1, h => by
    show (catR g i ++ g i).size ≤ _
    have h1 := catR_bound g k i (fun j hj => h j (by omega))
    have h2 := h i (by omega)
    rw [ByteArray.size_append, Nat.mul_succ]; omega
def stLI (key : ByteArray) (n : Nat) (g : Nat → ByteArray) (i : Nat) : St := stL key n g (catR g i) (i : Int)
set_option maxRecDepth 100000 in
theorem stLI_step (key : ByteArray) (n : Nat) (g : Nat → ByteArray) (e : Nat) (he : e ≤ n) (hn : ∀ j, j < e → early6 g j = false) : ∀ i : Nat, i ≤ e → i ≠ e → (roundM Try.prog (CL Try.prog SMac3) noL 53 0 (loopAt Try.f5 0) 1 [0, 1, 5, 6] [] [] (stLI key n g i)).ok fun r => r.1 = .normal ∧ ∃ j, j ≤ e ∧ e - j < e - i ∧ r.2 = stLI key n g j := by
  intro i hi hne
  have hlt : i < e := by omega
  obtain ⟨k1, k2⟩ := early6_no (hn i hlt)
  have hc := catR_bound g 300 i (fun j hj => (early6_no (hn j (by omega))).2)
  unfold stLI
  rw [stL_round]
  simp only [Int.toNat_natCast]
  refine ⟨fun _ => ⟨fun h => ?_, fun _ => ⟨by omega, by omega, fun h => ?_, fun _ => ⟨by omega, by omega, by omega, rfl, i + 1, by omega, by omega, ?_⟩⟩⟩, fun h => ?_⟩
  · have h := of_decide_eq_true h; omega
  · have h := of_decide_eq_true h; omega
  · rw [w64 ((i : Int) + 1) (by omega) (by omega)]; rfl
  · have h := of_decide_eq_false h; omega
def LParts (P : Program) (C : Cfg) (fn : Func) (key : ByteArray) (n : Nat) (g : Nat → ByteArray) (e : Nat) : Nat → St → Option (T (Ex × St)) :=
  addL 0 (fun st => .need (st.H.length = 1) (.need (st.tidy 1 [0, 1, 5, 6] [] [] = stLI key n g 0) ((roundM P C noL 53 0 (loopAt fn 0) 1 [0, 1, 5, 6] [] [] (closeAt [] (stLI key n g e))).bind (lastX 0)))) noL
set_option maxRecDepth 100000 in
theorem parts_run (key : ByteArray) (n : Nat) (g : Nat → ByteArray) (e : Nat) : runO Try.prog (CL Try.prog SMac3) (LParts Try.prog (CL Try.prog SMac3) Try.f5 key n g e) Try.f5 [.v (.string key), .ref 0] [.row n 1 fun i _ => .string (g i)] = T.ite false (T.leaf (Value.bool false)) (T.need ((1 : Nat) = (1 : Nat)) (T.need (St.mk [((0 : Nat), some (SV.v (Value.string key))), ((1 : Nat), some (SV.ref (0 : Nat))), ((5 : Nat), some (SV.v (Value.string (ByteArray.mk (Array.mk []))))), ((6 : Nat), some (SV.v (Value.int IntKind.i64 (0 : Int))))] [Blk.row n (1 : Nat) fun i x => Value.string (g i)] = stLI key n g (0 : Nat)) (T.ite (decide ((↑e : Int) < (↑n : Int))) (T.ite (decide ((↑e : Int) ≥ (20 : Int))) (T.leaf (Value.bool true)) (T.need ((0 : Int) ≤ (↑e : Int) ∧ (↑e : Int) < (↑n : Int)) (T.need ((↑e : Int).toNat < n) (T.ite (decide ((↑(g (↑e : Int).toNat).size : Int) > (300 : Int))) (T.leaf (Value.bool true)) (T.need ((0 : Int) ≤ (↑e : Int) ∧ (↑e : Int) < (↑n : Int)) (T.need ((↑e : Int).toNat < n) (T.need ((catR g e).size + (g (↑e : Int).toNat).size ≤ (9223372036854775807 : Nat)) (T.stuck (39 : Nat))))))))) (T.ite (decide ((↑key.size : Int) > (300 : Int))) (T.leaf (Value.bool true)) (T.need (n ≤ maxLen ∧ key.size ≤ (1000000000000 : Nat) ∧ (catR (strsF fun i x => Value.string (g i)) n).size ≤ (100000000000 : Nat) ∧ ∀ (i : Nat), i < n → (fun i x => Value.string (g i)) i (0 : Nat) = Value.string (strsF (fun i x => Value.string (g i)) i)) (T.need (key.size ≤ (1000000000000 : Nat) ∧ (catR g e).size ≤ (100000000000 : Nat)) (T.ite (decide (macOf key (catR (strsF fun i x => Value.string (g i)) n) = macOf key (catR g e))) (T.need ((1 : Nat) ≤ maxLen ∧ key.size ≤ (1000000000000 : Nat) ∧ (catL [catR g e]).size ≤ (100000000000 : Nat)) (T.need (n ≤ maxLen ∧ key.size ≤ (1000000000000 : Nat) ∧ (catR (strsF fun i x => Value.string (g i)) n).size ≤ (100000000000 : Nat) ∧ ∀ (i : Nat), i < n → (fun i x => Value.string (g i)) i (0 : Nat) = Value.string (strsF (fun i x => Value.string (g i)) i)) (T.leaf (Value.bool (decide (macOf key (catR g e) = macOf key (catR (strsF fun i x => Value.string (g i)) n))))))) (T.leaf (Value.bool false))))))))) := by kernel_rfl
set_option maxRecDepth 100000 in
theorem parts_any (key : ByteArray) (n : Nat) (g : Nat → ByteArray) (hnm : n ≤ maxLen) (v : Value) (w : World) (hv : ∀ B, BlkSat B w v (.row n 1 fun i _ => .string (g i))) : Calls Try.prog 5 #[.string key, v] w fun e w' => e = .returned (.bool true) ∧ Below w.heap.size w w' := by
  obtain ⟨-, he, h1, h2⟩ := firstOf_spec (early6 g) n 0
  rw [Nat.zero_add] at he h2
  generalize hE : firstOf (early6 g) n 0 = e at he h1 h2
  have hst := stLI_step key n g e he (fun j hj => h1 j (Nat.zero_le _) hj)
  refine calls_runO (CL_ok SMac3_ok) follows Try.func5 (by kernel_rfl) (by kernel_rfl) (one_loop (b := loopAt Try.f5 0) (id := 0) (by kernel_rfl) fun st t h => ?_) (parts_run key n g e) ?_ (mem_row (hv [v])) rfl
  · rw [addL_same h]
    exact loop_cnt (CL_ok SMac3_ok) follows (by kernel_rfl) (noloops (by kernel_rfl)) (fun i => i ≤ e) (stLI key n g) (fun i => e - i) 1 [0, 1, 5, 6] [] [] e [] hst (Nat.zero_le _)
  · have hce : (catR g e).size ≤ 300 * e := catR_bound g 300 e (fun j hj => (early6_no (h1 j (Nat.zero_le _) hj)).2)
    have he20 : e ≤ 20 := by
      by_cases h0 : e = 0
      · omega
      · have := (early6_no (h1 (e - 1) (Nat.zero_le _) (by omega))).1; omega
    refine ⟨(fun h => by cases h), fun _ => ⟨rfl, rfl, fun hlt => ⟨fun _ => rfl, fun a => ⟨?_, ?_, fun _ => rfl, fun b => ?_⟩⟩, fun hge => ⟨fun _ => rfl, fun hk => ?_⟩⟩⟩
    · have hlt := of_decide_eq_true hlt; omega
    · have hlt := of_decide_eq_true hlt
      rw [Int.toNat_natCast]; omega
    · have hlt := of_decide_eq_true hlt
      have a := of_decide_eq_false a
      have b := of_decide_eq_false b
      rw [Int.toNat_natCast] at b
      exact (early6_yes (h2 (by omega)) ⟨by omega, by omega⟩).elim
    · have hge := of_decide_eq_false hge
      have hk := of_decide_eq_false hk
      obtain rfl : e = n := by omega
      have hs : (strsF fun i _ => Value.string (g i)) = g := rfl
      rw [hs]
      have q : e ≤ maxLen ∧ key.size ≤ 1000000000000 ∧ (catR g e).size ≤ 100000000000 ∧ ∀ (i : Nat), i < e → (fun i (_ : Nat) => Value.string (g i)) i 0 = Value.string (g i) := ⟨hnm, by omega, by omega, fun i _ => rfl⟩
      refine ⟨q, ⟨by omega, by omega⟩, fun _ => ⟨⟨by decide, by omega, ?_⟩, q, ?_⟩, fun h => ?_⟩
      · show (catR g e).size ≤ _
        omega
      · simp [T.ok]
      · simp at h
set_option maxRecDepth 100000 in
theorem macOf_walk {H : Type} {enc : TypeId × Value → H} {base : Nat} {v0 v1 : Value} {d0 d1 : DataW H} {p0 p1 : List MemPlace} {W : World} (hv0 : Value.okWide Try.prog W .any base 9 v0)
    (h0 : DataW.Trod enc Try.prog W 0 (fun _ => true) true 9 v0 d0 p0) (hv1 : Value.okWide Try.prog W .any base 22 v1) (h1 : DataW.Trod enc Try.prog W 0 (fun _ => true) true 22 v1 d1 p1) :
    Calls Try.prog 5 #[v0, v1] W fun e w' => e = .returned (.bool true) ∧ Below W.heap.size W w' := by
  obtain ⟨key, rfl, rfl, rfl, wk⟩ := open_string Try.underlying9 hv0 h0
  obtain ⟨n, g, hn, hg, hb⟩ := open_strs (by kernel_rfl) Try.underlying22 Try.underlying9 hv1 h1
  exact parts_any key n g hn v1 W hb
set_option maxRecDepth 100000 in
theorem macLong_walk {H : Type} {enc : TypeId × Value → H} {base : Nat} {v0 v1 v2 : Value} {d0 d1 d2 : DataW H} {p0 p1 p2 : List MemPlace} {W : World} (hv0 : Value.okWide Try.prog W .any base 9 v0)
    (h0 : DataW.Trod enc Try.prog W 0 (fun _ => true) true 9 v0 d0 p0) (hv1 : Value.okWide Try.prog W .any base 5 v1) (h1 : DataW.Trod enc Try.prog W 0 (fun _ => true) true 5 v1 d1 p1)
    (hv2 : Value.okWide Try.prog W .any base 9 v2) (h2 : DataW.Trod enc Try.prog W 0 (fun _ => true) true 9 v2 d2 p2) :
    Calls Try.prog 6 #[v0, v1, v2] W fun e w' => e = .returned (.bool true) ∧ Below W.heap.size W w' := by
  obtain ⟨key, rfl, rfl, rfl, wk⟩ := open_string Try.underlying9 hv0 h0
  obtain ⟨n, rfl, rfl, rfl, wn⟩ := open_int Try.underlying5 hv1 h1
  obtain ⟨s, rfl, rfl, rfl, ws⟩ := open_string Try.underlying9 hv2 h2
  have hc : 0 ≤ n ∧ n ≤ 255 := by simp [Lit.wf, IntKind.min, IntKind.max, IntKind.bits, IntKind.signed] at wn; omega
  exact macLong_any key n s hc.1 hc.2 W
set_option maxRecDepth 100000 in
theorem macTells_walk {H : Type} {enc : TypeId × Value → H} {base : Nat} {v0 v1 v2 v3 : Value} {d0 d1 d2 d3 : DataW H} {p0 p1 p2 p3 : List MemPlace} {W : World} (hv0 : Value.okWide Try.prog W .any base 9 v0)
    (h0 : DataW.Trod enc Try.prog W 0 (fun _ => true) true 9 v0 d0 p0) (hv1 : Value.okWide Try.prog W .any base 9 v1) (h1 : DataW.Trod enc Try.prog W 0 (fun _ => true) true 9 v1 d1 p1)
    (hv2 : Value.okWide Try.prog W .any base 3 v2) (h2 : DataW.Trod enc Try.prog W 0 (fun _ => true) true 3 v2 d2 p2) (hv3 : Value.okWide Try.prog W .any base 3 v3) (h3 : DataW.Trod enc Try.prog W 0 (fun _ => true) true 3 v3 d3 p3) :
    Calls Try.prog 7 #[v0, v1, v2, v3] W fun e w' => e = .returned (.bool true) ∧ Below W.heap.size W w' := by
  obtain ⟨a, rfl, rfl, rfl, wa⟩ := open_string Try.underlying9 hv0 h0
  obtain ⟨b, rfl, rfl, rfl, wb⟩ := open_string Try.underlying9 hv1 h1
  obtain ⟨place, rfl, rfl, rfl, wn⟩ := open_int Try.underlying3 hv2 h2
  obtain ⟨size, rfl, rfl, rfl, ws⟩ := open_int Try.underlying3 hv3 h3
  exact macTells_any a b place size W
end Go.Proofs.Ytapogkodlempkaa
