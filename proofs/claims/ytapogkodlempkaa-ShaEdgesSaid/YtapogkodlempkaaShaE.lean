/- The law of the edges (5.1): a slice filled with one octet. No conditions. -/
import Derived.Test.YtapogkodlempkaaShaLaw
namespace Go.Proofs.Ytapogkodlempkaa
set_option linter.unusedVariables false
set_option linter.unusedSimpArgs false
open Go.RowKit Sym Sha Go.ChangeShapes Go.WideShapes Go.ChangeMaps

def stE (c n : Int) (m : Nat) (xs : List Value) (i : Int) : St := ⟨[(5, some (.ref 0)), (0, some (.v (.int .u8 c))), (1, some (.v (.int .i64 n))), (6, some (.v (.int .i64 i)))], [.vec true 5 1 m xs]⟩
def filled (c : Int) (m i : Nat) : List Value := List.replicate i (.int .u8 c) ++ List.replicate (m - i) (.int .u8 0)
set_option maxRecDepth 100000 in
theorem stE_round (c n : Int) (m : Nat) (xs : List Value) (i : Int) : roundM Try.prog (onlyS Try.prog SSha10) noL 38 0 (loopAt Try.f4 0) 1 [5, 0, 1, 6] [] [] (stE c n m xs i) = T.ite (decide (i < (↑m : Int))) (T.need ((0 : Int) ≤ i ∧ i < (↑m : Int)) (T.need (i.toNat < m) (T.leaf (Ex.normal, St.mk [((5 : Nat), some (SV.ref (0 : Nat))), ((0 : Nat), some (SV.v (Value.int IntKind.u8 c))), ((1 : Nat), some (SV.v (Value.int IntKind.i64 n))), ((6 : Nat), some (SV.v (Value.int IntKind.i64 (IntKind.i64.wrap (i + (1 : Int))))))] [Blk.vec true (5 : Nat) (1 : Nat) m (List.take (i.toNat * (1 : Nat) + (0 : Nat)) xs ++ [Value.int IntKind.u8 c] ++ List.drop (i.toNat * (1 : Nat) + (0 : Nat) + (1 : Nat)) xs)])))) (T.leaf (Ex.exit (0 : Nat), St.mk [((5 : Nat), some (SV.ref (0 : Nat))), ((0 : Nat), some (SV.v (Value.int IntKind.u8 c))), ((1 : Nat), some (SV.v (Value.int IntKind.i64 n))), ((6 : Nat), some (SV.v (Value.int IntKind.i64 i)))] [Blk.vec true (5 : Nat) (1 : Nat) m xs])) := by kernel_rfl
theorem filled_step (c : Int) (m i : Nat) (h : i < m) : List.take i (filled c m i) ++ [Value.int .u8 c] ++ List.drop (i + 1) (filled c m i) = filled c m (i + 1) := by
  unfold filled
  rw [List.take_left' (by simp), List.drop_append, List.drop_of_length_le (by simp), List.length_replicate, List.drop_replicate, List.replicate_succ', List.nil_append, show m - i - (i + 1 - i) = m - (i + 1) by omega]
theorem stE_step (c n : Int) (m : Nat) (hm : m < 200) : ∀ i : Nat, i ≤ m → i ≠ m → (roundM Try.prog (onlyS Try.prog SSha10) noL 38 0 (loopAt Try.f4 0) 1 [5, 0, 1, 6] [] [] (stE c n m (filled c m i) i)).ok fun r => r.1 = .normal ∧ ∃ j, j ≤ m ∧ m - j < m - i ∧ r.2 = stE c n m (filled c m j) (j : Nat) := by
  intro i hi hne
  have hlt : i < m := by omega
  rw [stE_round]
  refine ⟨fun _ => ⟨⟨by omega, by omega⟩, by omega, rfl, i + 1, by omega, by omega, ?_⟩, fun h => by simp at h; omega⟩
  simp only
  rw [show ((i : Int).toNat * 1 + 0) = i by omega, filled_step c m i hlt, show IntKind.i64.wrap ((i : Int) + 1) = i + 1 by simp only [IntKind.wrap, IntKind.bits, IntKind.signed]; simp; omega]
  rfl
def LEdge (P : Program) (S : Tab) (fn : Func) (c n : Int) (m : Nat) : Nat → St → Option (T (Ex × St)) :=
  addL 0 (fun st => .need (m < 200) (.need (st.H.length = 1) (.need (st.tidy 1 [5, 0, 1, 6] [] [] = stE c n m (filled c m 0) (0 : Nat)) ((roundM P (onlyS P S) noL 38 0 (loopAt fn 0) 1 [5, 0, 1, 6] [] [] (closeAt [] (stE c n m (filled c m m) (m : Nat)))).bind (lastX 0))))) noL
set_option maxRecDepth 100000 in
theorem edges_run (c n : Int) (m : Nat) : runV Try.prog (onlyS Try.prog SSha10) (LEdge Try.prog SSha10 Try.f4 c n m) Try.f4 [.int .u8 c, .int .i64 n] = T.ite false (T.leaf (Value.bool false)) (T.need ((0 : Int) ≤ IntKind.i64.wrap ((IntKind.u64.wrap n).tmod (200 : Int)) ∧ IntKind.i64.wrap ((IntKind.u64.wrap n).tmod (200 : Int)) ≤ (9223372036854775807 : Int) ∧ Try.prog.types[(5 : Nat)].bytes * (IntKind.i64.wrap ((IntKind.u64.wrap n).tmod (200 : Int))).toNat ≤ (281474976710656 : Nat)) (T.need (m < (200 : Nat)) (T.need ((1 : Nat) = (1 : Nat)) (T.need (St.mk [((5 : Nat), some (SV.ref (0 : Nat))), ((0 : Nat), some (SV.v (Value.int IntKind.u8 c))), ((1 : Nat), some (SV.v (Value.int IntKind.i64 n))), ((6 : Nat), some (SV.v (Value.int IntKind.i64 (0 : Int))))] [Blk.vec true (5 : Nat) (1 : Nat) (IntKind.i64.wrap ((IntKind.u64.wrap n).tmod (200 : Int))).toNat (List.replicate (IntKind.i64.wrap ((IntKind.u64.wrap n).tmod (200 : Int))).toNat (Value.int IntKind.u8 (0 : Int)))] = stE c n m (filled c m (0 : Nat)) (0 : Int)) (T.ite (decide ((↑m : Int) < (↑m : Int))) (T.need ((0 : Int) ≤ (↑m : Int) ∧ (↑m : Int) < (↑m : Int)) (T.need ((↑m : Int).toNat < m) (T.stuck (39 : Nat)))) (T.need (filled c m m = bytesV (Sym.strOf (filled c m m))) (T.need ((ByteArray.mk (Array.mk (Sym.strOf (filled c m m)))).size ≤ (1000000000000 : Nat)) (T.ite (decide ((↑(shaOf (ByteArray.mk (Array.mk (Sym.strOf (filled c m m))))).size : Int) = (32 : Int))) (T.need (filled c m m = bytesV (Sym.strOf (filled c m m))) (T.need ((ByteArray.mk (Array.mk (Sym.strOf (filled c m m)))).size ≤ (1000000000000 : Nat)) (T.leaf (Value.bool (decide (shaOf (ByteArray.mk (Array.mk (Sym.strOf (filled c m m)))) = shaOf (ByteArray.mk (Array.mk (Sym.strOf (filled c m m)))))))))) (T.leaf (Value.bool false)))))))))) := by kernel_rfl
theorem filled_bytes (c : Int) (m : Nat) (h0 : 0 ≤ c) (h1 : c ≤ 255) : filled c m m = bytesV (Sym.strOf (filled c m m)) := by
  unfold filled bytesV Sym.strOf
  rw [Nat.sub_self, List.replicate_zero, List.append_nil, List.map_replicate, List.map_replicate]
  congr 2
  show c = ((UInt8.ofNat c.toNat).toNat : Int)
  rw [UInt8.toNat_ofNat']
  omega
def many (n : Int) : Nat := (IntKind.i64.wrap ((IntKind.u64.wrap n).tmod 200)).toNat
theorem u64_rangeE (z : Int) : 0 ≤ IntKind.u64.wrap z ∧ IntKind.u64.wrap z < 18446744073709551616 := by simp only [IntKind.wrap, IntKind.bits, IntKind.signed]; simp; omega
theorem many_lt (n : Int) : 0 ≤ IntKind.i64.wrap ((IntKind.u64.wrap n).tmod 200) ∧ IntKind.i64.wrap ((IntKind.u64.wrap n).tmod 200) < 200 := by
  have h := u64_rangeE n
  have e : (IntKind.u64.wrap n).tmod 200 = (IntKind.u64.wrap n) % 200 := Int.tmod_eq_emod_of_nonneg h.1
  rw [e]
  generalize IntKind.u64.wrap n = z at h ⊢
  simp only [IntKind.wrap, IntKind.bits, IntKind.signed]; simp; omega
set_option maxRecDepth 100000 in
theorem shaEdges_any (c n : Int) (h0 : 0 ≤ c) (h1 : c ≤ 255) (w : World) : Calls Try.prog 4 #[.int .u8 c, .int .i64 n] w fun e w' => e = .returned (.bool true) ∧ Below w.heap.size w w' := by
  have hm := many_lt n
  have hm2 : many n < 200 := by unfold many; omega
  refine calls_runV (onlyS_ok SSha10_ok) follows Try.func4 (by kernel_rfl) (by kernel_rfl) (one_loop (b := loopAt Try.f4 0) (id := 0) (by kernel_rfl) fun st t h => ?_) (edges_run c n (many n)) ?_ w
  · rw [addL_same h]
    exact .need fun _ => loop_cnt (onlyS_ok SSha10_ok) follows (by kernel_rfl) (noloops (by kernel_rfl)) (fun i : Nat => i ≤ many n) (fun i => stE c n (many n) (filled c (many n) i) i) (fun i => many n - i) 1 [5, 0, 1, 6] [] [] (many n) [] (stE_step c n (many n) hm2) (Nat.zero_le _)
  · have hb := filled_bytes c (many n) h0 h1
    have hl : (Sym.strOf (filled c (many n) (many n))).length ≤ 200 := by unfold Sym.strOf filled; simp; omega
    have hs : (ByteArray.mk (Array.mk (Sym.strOf (filled c (many n) (many n))))).size ≤ 1000000000000 := by
      show (Sym.strOf (filled c (many n) (many n))).length ≤ _
      omega
    have hz : Try.prog.types[(5 : Nat)].bytes = 1 := by kernel_rfl
    refine ⟨(fun h => by cases h), fun _ => ⟨⟨hm.1, by omega, by rw [hz]; omega⟩, hm2, rfl, ?_, (fun h => by simp at h), fun _ => ⟨hb, hs, fun _ => ⟨hb, hs, ?_⟩, fun h => ?_⟩⟩⟩
    · unfold stE filled; rfl
    · simp [T.ok]
    · rw [shaOf_size] at h; simp at h
set_option maxRecDepth 100000 in
theorem shaEdges_walk {H : Type} {enc : TypeId × Value → H} {base : Nat} {v0 v1 : Value} {d0 d1 : DataW H} {p0 p1 : List MemPlace} {W : World} (hv0 : Value.okWide Try.prog W .any base 5 v0)
    (h0 : DataW.Trod enc Try.prog W 0 (fun _ => true) true 5 v0 d0 p0) (hv1 : Value.okWide Try.prog W .any base 3 v1) (h1 : DataW.Trod enc Try.prog W 0 (fun _ => true) true 3 v1 d1 p1) :
    Calls Try.prog 4 #[v0, v1] W fun e w' => e = .returned (.bool true) ∧ Below W.heap.size W w' := by
  obtain ⟨c, rfl, rfl, rfl, wk⟩ := open_int Try.underlying5 hv0 h0
  obtain ⟨n, rfl, rfl, rfl, wn⟩ := open_int Try.underlying3 hv1 h1
  have hc : 0 ≤ c ∧ c ≤ 255 := by simp [Lit.wf, IntKind.min, IntKind.max, IntKind.bits, IntKind.signed] at wk; omega
  exact shaEdges_any c n hc.1 hc.2 W
end Go.Proofs.Ytapogkodlempkaa
