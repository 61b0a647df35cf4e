/- Sums with a key: bytes turned, texts compared. No conditions. -/
import Derived.Test.YtjjnolpkifhbnaaGreatMacA
namespace Go.Proofs.YtjjnolpkifhbnaaGreat
set_option linter.unusedVariables false
set_option linter.unusedSimpArgs false
open Go.RowKit Sym Sha Go.ChangeShapes Go.WideShapes Go.ChangeMaps

theorem u8_wrap (n : Nat) (h : n < 256) : IntKind.u8.wrap (n : Int) = n := by simp only [IntKind.wrap, IntKind.bits, IntKind.signed]; simp; omega
theorem xor8 (x n : UInt8) : IntKind.u8.wrap ((Nat.bitwise bne (((x.toNat : Nat) : Int) % 256).toNat (((n.toNat : Nat) : Int) % 256).toNat : Nat) : Int) = (((x ^^^ n).toNat : Nat) : Int) := by
  have hx := x.toNat_lt
  have hn := n.toNat_lt
  rw [show (((x.toNat : Nat) : Int) % 256).toNat = x.toNat by omega, show (((n.toNat : Nat) : Int) % 256).toNat = n.toNat by omega]
  show IntKind.u8.wrap ((x.toNat ^^^ n.toNat : Nat) : Int) = _
  rw [← UInt8.toNat_xor]
  exact u8_wrap _ (UInt8.toNat_lt _)
theorem or8 (x n : UInt8) : IntKind.u8.wrap ((Nat.bitwise or (((x.toNat : Nat) : Int) % 256).toNat (((n.toNat : Nat) : Int) % 256).toNat : Nat) : Int) = (((x ||| n).toNat : Nat) : Int) := by
  have hx := x.toNat_lt
  have hn := n.toNat_lt
  rw [show (((x.toNat : Nat) : Int) % 256).toNat = x.toNat by omega, show (((n.toNat : Nat) : Int) % 256).toNat = n.toNat by omega]
  show IntKind.u8.wrap ((x.toNat ||| n.toNat : Nat) : Int) = _
  rw [← UInt8.toNat_or]
  exact u8_wrap _ (UInt8.toNat_lt _)
theorem bytesV_map (l : List UInt8) : bytesV l = (l.map fun b => (b.toNat : Int)).map (Value.int .u8) := by unfold bytesV; rw [List.map_map]; rfl
theorem bytes_at (l : List UInt8) (j : Nat) (h : j < l.length) : ((bytesV l).drop j).take 1 = [.int .u8 (intV (cellAt (bytesV l) j))] ∧ intV (cellAt (bytesV l) j) = ((l.getD j 0).toNat : Int) := by
  rw [bytesV_map]
  have := nums_at .u8 (l.map fun b => (b.toNat : Int)) j (by simpa using h)
  refine ⟨this.1, this.2.trans ?_⟩
  simp [nth, List.getD_eq_getElem?_getD, h]
theorem strOf_bytesV (l : List UInt8) : Sym.strOf (bytesV l) = l := by
  unfold Sym.strOf bytesV
  rw [List.map_map]
  conv => rhs; rw [← List.map_id l]
  apply List.map_congr_left
  intro b _
  show UInt8.ofNat ((b.toNat : Int)).toNat = b
  rw [Int.toNat_natCast]; exact UInt8.ofNat_toNat
/-- the first i bytes turned -/
def turnI (n : UInt8) (l : List UInt8) (i : Nat) : List UInt8 := Mac.turn n (l.take i) ++ l.drop i
theorem turnI_length (n : UInt8) (l : List UInt8) (i : Nat) : (turnI n l i).length = l.length := by simp [turnI, Mac.turn]; omega
theorem turnI_get (n : UInt8) (l : List UInt8) (i : Nat) (h : i < l.length) : (turnI n l i).getD i 0 = l[i] := by
  unfold turnI
  have : (Mac.turn n (l.take i)).length = i := by simp only [Mac.turn, List.length_map, List.length_take]; omega
  rw [List.getD_eq_getElem?_getD, List.getElem?_append_right (by omega)]
  rw [this]; simp [h]
theorem turnI_succ (n : UInt8) (l : List UInt8) (i : Nat) (h : i < l.length) : (bytesV (turnI n l i)).take i ++ [Value.int .u8 (((l[i] ^^^ n).toNat : Nat) : Int)] ++ (bytesV (turnI n l i)).drop (i + 1) = bytesV (turnI n l (i + 1)) := by
  have e1 : (Mac.turn n (l.take i)).length = i := by simp [Mac.turn]; omega
  have e2 : (turnI n l i).take i = Mac.turn n (l.take i) := by unfold turnI; rw [List.take_left' e1]
  have e3 : (turnI n l i).drop (i + 1) = l.drop (i + 1) := by
    unfold turnI
    rw [List.drop_append, List.drop_of_length_le (by omega), e1, List.drop_drop, List.nil_append]
    congr 1; omega
  unfold bytesV
  rw [← List.map_take, ← List.map_drop, e2, e3]
  unfold turnI
  rw [List.take_succ_eq_append_getElem h]
  simp only [Mac.turn, List.map_append, List.map_cons, List.map_nil, List.append_assoc]
theorem stT_step (n : UInt8) (l : List UInt8) (hl : l.length ≤ 9223372036854775807) : ∀ i : Nat, i ≤ l.length → i ≠ l.length → (roundM Tryz.prog (CM Tryz.prog noS Tryz.f97 Tryz.f109 Tryz.f95 Tryz.f94) noL 26 0 (loopAt Tryz.f96 0) 2 [1, 5, 10, 11, 12] [] [] (stT n.toNat l.length (bytesV (turnI n l i)) (i : Nat))).ok fun r => r.1 = .normal ∧ ∃ j, j ≤ l.length ∧ l.length - j < l.length - i ∧ r.2 = stT n.toNat l.length (bytesV (turnI n l j)) (j : Nat) := by
  intro i hi hne
  have hlt : i < l.length := by omega
  rw [stT_round]
  simp only [Int.toNat_natCast, Nat.mul_one, Nat.add_zero]
  have hb := bytes_at (turnI n l i) i (by rw [turnI_length]; omega)
  rw [turnI_get n l i hlt] at hb
  refine ⟨fun _ => ⟨by omega, by omega, hb.1, by omega, by omega, rfl, i + 1, by omega, by omega, ?_⟩, fun h => by simp at h; omega⟩
  rw [hb.2, xor8, turnI_succ n l i hlt, w64 ((i : Int) + 1) (by omega) (by omega)]
  rfl
def LTurned (P : Program) (C : Cfg) (fn : Func) (n : UInt8) (l : List UInt8) : Nat → St → Option (T (Ex × St)) :=
  addL 0 (fun st => .need (st.H.length = 2) (.need (st.tidy 2 [1, 5, 10, 11, 12] [] [] = stT n.toNat l.length (bytesV (turnI n l 0)) (0 : Nat)) ((roundM P C noL 26 0 (loopAt fn 0) 2 [1, 5, 10, 11, 12] [] [] (closeAt [] (stT n.toNat l.length (bytesV (turnI n l l.length)) (l.length : Nat)))).bind (lastX 0)))) noL
set_option maxRecDepth 100000 in
theorem turned_run (z : Int) (n : UInt8) (s : ByteArray) : runF Tryz.prog (CM Tryz.prog noS Tryz.f97 Tryz.f109 Tryz.f95 Tryz.f94) (LTurned Tryz.prog (CM Tryz.prog noS Tryz.f97 Tryz.f109 Tryz.f95 Tryz.f94) Tryz.f96 n s.data.toList) Tryz.f96 (Tryz.f96.body.getD .skip) [.v (.string s), .clo (.func 109) [] [.ptr 0 0]] [.own [.v (.int .u8 z)]] = .need (s.size ≤ 9223372036854775807) (.need (2 = 2) (.need (St.mk [(1, some (SV.clo (Fn.func 109) [] [.ptr 0 0])), (5, some (SV.ref 1)), (10, some (SV.ref 1)), (11, some (.v (.int .i64 (↑s.size : Int)))), (12, some (.v (.int .i64 0)))] [.own [.v (.int .u8 z)], Blk.vec true 1000000007 1 s.size (bytesV s.1.toList)] = stT (↑n.toNat : Int) s.1.toList.length (bytesV (turnI n s.1.toList 0)) (0 : Int)) (.ite (decide ((↑s.1.toList.length : Int) < (↑s.1.toList.length : Int))) (.need ((0 : Int) ≤ (↑s.data.toList.length : Int) ∧ (↑s.data.toList.length : Int) < (↑s.data.toList.length : Int)) (.need ((↑s.1.toList.length : Int).toNat < s.1.toList.length) (.need (List.take 1 (List.drop ((↑s.1.toList.length : Int).toNat * 1 + 0) (bytesV (turnI n s.1.toList s.1.toList.length))) = [Value.int IntKind.u8 (intV (cellAt (bytesV (turnI n s.1.toList s.1.toList.length)) ((↑s.1.toList.length : Int).toNat * 1 + 0)))]) (.need ((0 : Int) ≤ (↑s.data.toList.length : Int) ∧ (↑s.data.toList.length : Int) < (↑s.data.toList.length : Int)) (.need ((↑s.1.toList.length : Int).toNat < s.1.toList.length) (T.stuck 39)))))) (.need (bytesV (turnI n s.1.toList s.1.toList.length) = bytesV (Sym.strOf (bytesV (turnI n s.1.toList s.1.toList.length)))) (.leaf (.v (.string (ByteArray.mk (Array.mk (Sym.strOf (bytesV (turnI n s.1.toList s.1.toList.length)))))), [.own [.v (.int .u8 (↑n.toNat : Int))], Blk.vec true 1000000007 1 s.1.toList.length (bytesV (turnI n s.1.toList s.1.toList.length))])))))) := by kernel_rfl
def fTurned : List SV → List Blk → Option (T (SV × List Blk))
  | [.v (.string s), .clo (.func f) [] [.ptr 0 0]], [.own [.v (.int .u8 z)]] => bif Nat.beq f 109 then
    some (.need (s.size ≤ 9223372036854775807 ∧ 0 ≤ z ∧ z < 256) (.leaf (.v (.string (ba (Mac.turn (UInt8.ofNat z.toNat) s.data.toList))), [.own [.v (.int .u8 z)]]))) else none
  | _, _ => none
set_option maxRecDepth 100000 in
theorem fTurned_ok : EntryOk Tryz.prog 96 fTurned := by
  intro ss H t ht bs B w vs hm hv Qs hq
  unfold fTurned at ht
  split at ht
  · rename_i s f z
    cases hf : Nat.beq f 109
    · rw [hf] at ht; cases ht
    · rw [hf, cond_true, Option.some.injEq] at ht
      have hf := Nat.eq_of_beq_eq_true hf
      subst hf
      subst ht
      obtain ⟨⟨p1, p2, p3⟩, hq⟩ := hq
      have hz : z = ((UInt8.ofNat z.toNat).toNat : Int) := by rw [UInt8.toNat_ofNat']; omega
      generalize UInt8.ofNat z.toNat = n at hq hz
      have hsz : s.data.toList.length ≤ 9223372036854775807 := by rw [show s.data.toList.length = s.size by simp]; exact p1
      refine treeT_ok (CM_ok noS_ok) follows Tryz.func96 (by kernel_rfl) (by kernel_rfl) (one_loop (b := loopAt Tryz.f96 0) (id := 0) (by kernel_rfl) fun st t h => ?_) (turned_run z n s) (fun Qs h => ?_) hm hv hq
      · rw [addL_same h]
        exact loop_cnt (CM_ok noS_ok) follows (by kernel_rfl) (noloops (by kernel_rfl)) (fun i : Nat => i ≤ s.data.toList.length) (fun i => stT n.toNat s.data.toList.length (bytesV (turnI n s.data.toList i)) (i : Nat)) (fun i => s.data.toList.length - i) 2 [1, 5, 10, 11, 12] [] [] s.data.toList.length [] (stT_step n s.data.toList hsz) (Nat.zero_le _)
      · have e : turnI n s.data.toList s.data.toList.length = Mac.turn n s.data.toList := by unfold turnI; rw [List.take_length, List.drop_length, List.append_nil]
        refine ⟨p1, rfl, ?_, (fun e => ?_), fun _ => ?_⟩
        · subst hz; rfl
        · have := of_decide_eq_true e; omega
        · refine ⟨by rw [strOf_bytesV], ?_⟩
          rw [e, strOf_bytesV, ← hz]
          exact h
  · cases ht
end Go.Proofs.YtjjnolpkifhbnaaGreat
