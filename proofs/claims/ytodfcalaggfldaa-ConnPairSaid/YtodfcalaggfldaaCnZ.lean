/- Two sides of a connection: the law's walk. No conditions. -/
import Derived.Test.YtodfcalaggfldaaCnY
namespace Go.Proofs.Ytodfcalaggfldaa
set_option linter.unusedVariables false
set_option linter.unusedSimpArgs false
open Go.RowKit Sym Go.ChangeShapes Go.WideShapes Go.ChangeMaps

set_option maxRecDepth 100000 in
theorem pair_run0 (iss isr : Int) (s : Nat → Bool) (n : Nat) (cl : Bool) : runO Try.prog (CK6 Try.prog (CnFn.mk Try.f79 Try.f81 Try.f14 Try.f41 Try.f32 Try.f29 Try.f43 Try.f39 Try.f37 Try.f30 Try.f36 Try.f40 Try.f44 Try.f33 Try.f35 Try.f31 Try.f11 Try.f13 Try.f15 Try.f9 Try.f16 Try.f6 Try.f7) Try.f12) LNo Try.f3 [.v (.int .i64 iss), .v (.int .i64 isr), .ref 0, .v (.bool cl)] [.row n 1 fun i _ => .bool (s i)] = .need (Value.bool true = Value.bool true) (.ite (decide ((↑n : Int) > (100 : Int))) (.leaf (Value.bool true)) (.need (OpP 0 fun x x_1 => undef) (.need (Value.int IntKind.i64 0 = Value.int IntKind.i64 0) (.need ((8 : Int) = (8 : Int)) (.need (1 ≤ 9223372036854775807 ∧ 128 ≤ 140737488355328) (.need (allOneP [Value.int IntKind.i64 0, Value.bool true, Value.int IntKind.i64 0, Value.int IntKind.i64 0, Value.int IntKind.i64 0, Value.int IntKind.i64 0, Value.int IntKind.i64 (Circ.add (Circ.of (Circ.add iss (-1 : Int))) (1 : Int)), Value.int IntKind.i64 0, Value.int IntKind.i64 5, Value.int IntKind.i64 0, Value.int IntKind.i64 0, Value.slice none 0 0, Value.string (ByteArray.mk (Array.mk []))]) (.need (CkPL (Pk.mk (1 : Int) true (0 : Int) (0 : Int) (0 : Int) (0 : Int) (Circ.of isr) (Circ.of iss) (5 : Int) (0 : Int) (0 : Int) (ByteArray.mk (Array.mk []))) 0 fun x x_1 => undef) (.need (Value.int IntKind.i64 (chkP (Pk.mk (1 : Int) true (0 : Int) (0 : Int) (0 : Int) (0 : Int) (Circ.of isr) (Circ.of iss) (5 : Int) (0 : Int) (0 : Int) (ByteArray.mk (Array.mk []))) 0 (opF fun x x_1 => undef)) = Value.int IntKind.i64 0) (.need (Value.bool (Circ.within (Circ.of iss) (Circ.of iss) (Circ.add (Circ.of (Circ.add iss (-1 : Int))) (1 : Int))) = Value.bool true) (.ite false (.leaf (Value.bool false)) (.need (OpP 0 fun x x_1 => undef) (.need (Value.int IntKind.i64 0 = Value.int IntKind.i64 0) (.need (1 ≤ 9223372036854775807 ∧ 128 ≤ 140737488355328) (.need (allOneP [Value.int IntKind.i64 3, Value.bool true, Value.int IntKind.i64 0, Value.int IntKind.i64 0, Value.int IntKind.i64 0, Value.int IntKind.i64 0, Value.int IntKind.i64 (Circ.add (Circ.of (Circ.add (Circ.of (Circ.add iss (-1 : Int))) (1 : Int))) (1 : Int)), Value.int IntKind.i64 (Circ.of (Circ.of isr)), Value.int IntKind.i64 0, Value.int IntKind.i64 0, Value.int IntKind.i64 0, Value.slice none 0 0, Value.string (ByteArray.mk (Array.mk []))]) (.need ((8 : Int) = (8 : Int)) (.need ((0 : Int) ≤ (0 : Int) ∧ (0 : Int) < (1 : Int)) (.need (CkPL (Pk.mk (3 : Int) true (0 : Int) (0 : Int) (0 : Int) (0 : Int) (Circ.add (Circ.of (Circ.add (Circ.of (Circ.add iss (-1 : Int))) (1 : Int))) (1 : Int)) (Circ.of (Circ.of isr)) (0 : Int) (0 : Int) (0 : Int) (ByteArray.mk (Array.mk []))) 0 fun x x_1 => undef) (.need (Value.int IntKind.i64 (chkP (Pk.mk (3 : Int) true (0 : Int) (0 : Int) (0 : Int) (0 : Int) (Circ.add (Circ.of (Circ.add (Circ.of (Circ.add iss (-1 : Int))) (1 : Int))) (1 : Int)) (Circ.of (Circ.of isr)) (0 : Int) (0 : Int) (0 : Int) (ByteArray.mk (Array.mk []))) 0 (opF fun x x_1 => undef)) = Value.int IntKind.i64 0) (.need (Value.int IntKind.i64 (Span.valid (Span.Marks.mk (Circ.of isr) (Circ.of iss) (Circ.of isr) (Circ.of iss) (Circ.of isr)) (3 : Int) (Circ.add (Circ.of (Circ.add (Circ.of (Circ.add iss (-1 : Int))) (1 : Int))) (1 : Int)) (Circ.of (Circ.of isr))) = Value.int IntKind.i64 0) (.need (OpP 0 fun x x_1 => undef) (.need (Value.int IntKind.i64 0 = Value.int IntKind.i64 0) (.ite false (.ite true (.leaf (Value.bool false)) (.leaf (Value.bool false))) (.need (1 ≤ 9223372036854775807 ∧ 128 ≤ 140737488355328) (.need (allOneP [Value.int IntKind.i64 3, Value.bool false, Value.int IntKind.i64 0, Value.int IntKind.i64 0, Value.int IntKind.i64 0, Value.int IntKind.i64 0, Value.int IntKind.i64 (shortN (Circ.add (Circ.of isr) (1 : Int))), Value.int IntKind.i64 (shortN (Circ.later (Circ.of iss) (Circ.add (Circ.of (Circ.add (Circ.of (Circ.add iss (-1 : Int))) (1 : Int))) (1 : Int)))), Value.int IntKind.i64 0, Value.int IntKind.i64 0, Value.int IntKind.i64 0, Value.slice none 0 0, Value.string (ByteArray.mk (Array.mk []))]) (.need ((0 : Int) ≤ (0 : Int) ∧ (0 : Int) < (1 : Int)) (.need (CkPL (Pk.mk (3 : Int) false (0 : Int) (0 : Int) (0 : Int) (0 : Int) (shortN (Circ.add (Circ.of isr) (1 : Int))) (shortN (Circ.later (Circ.of iss) (Circ.add (Circ.of (Circ.add (Circ.of (Circ.add iss (-1 : Int))) (1 : Int))) (1 : Int)))) (0 : Int) (0 : Int) (0 : Int) (ByteArray.mk (Array.mk []))) 0 fun x x_1 => undef) (.need (Value.int IntKind.i64 (chkP (Pk.mk (3 : Int) false (0 : Int) (0 : Int) (0 : Int) (0 : Int) (shortN (Circ.add (Circ.of isr) (1 : Int))) (shortN (Circ.later (Circ.of iss) (Circ.add (Circ.of (Circ.add (Circ.of (Circ.add iss (-1 : Int))) (1 : Int))) (1 : Int)))) (0 : Int) (0 : Int) (0 : Int) (ByteArray.mk (Array.mk []))) 0 (opF fun x x_1 => undef)) = Value.int IntKind.i64 0) (.need (Value.int IntKind.i64 (Span.valid (Span.Marks.mk (Circ.of (Circ.of iss)) (Circ.of (Circ.of isr)) (Circ.add (Circ.of (Circ.add (Circ.of (Circ.add iss (-1 : Int))) (1 : Int))) (1 : Int)) (Circ.of (Circ.of isr)) (Circ.of iss)) (3 : Int) (longN (Circ.of (Circ.of isr)) (shortN (Circ.add (Circ.of isr) (1 : Int)))) (longN (Circ.add (Circ.of (Circ.add (Circ.of (Circ.add iss (-1 : Int))) (1 : Int))) (1 : Int)) (shortN (Circ.later (Circ.of iss) (Circ.add (Circ.of (Circ.add (Circ.of (Circ.add iss (-1 : Int))) (1 : Int))) (1 : Int)))))) = Value.int IntKind.i64 0) (.ite false (.leaf (Value.bool false)) (T.stuck 39)))))))))))))))))))))))))))))) := by kernel_rfl
set_option maxRecDepth 100000 in
theorem pair_any (iss isr : Int) (s : Nat → Bool) (n : Nat) (cl : Bool) (u : Value) (w : World) (hv : ∀ B, BlkSat B w u (.row n 1 fun i _ => .bool (s i))) :
    Calls Try.prog 3 #[.int .i64 iss, .int .i64 isr, u, .bool cl] w fun e w' => e = .returned (.bool true) ∧ Below w.heap.size w w' := by
  by_cases hn : n ≤ 100
  · have hA := And.intro (Circ.of_lo iss) (Circ.of_hi iss)
    have hR := And.intro (Circ.of_lo isr) (Circ.of_hi isr)
    have h0 := jn_0 _ _ hA hR
    refine calls_runO CK6_ok follows Try.func3 (by kernel_rfl) (lexAllF_ok (by kernel_rfl)) (two_loops (b1 := loopAt Try.f3 0) (b2 := loopAt Try.f3 1) (id1 := 0) (id2 := 2) (by kernel_rfl) (fun st t h => ?_) (fun st t h => ?_)) rfl
      (pair_tree iss isr (Circ.of iss) (Circ.of isr) rfl rfl hA hR s n hn cl (mS s (m0P (Circ.of iss) (Circ.of isr)) n) (jn_at s h0 n (by omega))) (mem_row (hv _)) rfl
    · rw [addL_same h]
      exact loopG_cnt (ι := Nat) CK6_ok follows (lexAllF_ok (by kernel_rfl)) (noloops (by kernel_rfl)) (fun i => i ≤ n) (fun i => pr_st (Circ.of iss) (Circ.of isr) (Circ.of isr) (Circ.of iss) s n cl (mS s (m0P (Circ.of iss) (Circ.of isr)) i) i) (fun i => n - i) 7 (onlyD_ok [2, 3, 9, 10, 15] [2, 4, 5, 6]) n []
        (fun i hi hne => pr_ok _ _ hA hR s n hn cl _ h0 i hi hne) (i0 := 0) (Nat.zero_le n)
    · rw [addL_same (addL_other (by decide) h)]
      exact unroll_ok CK6_ok follows (lexAllF_ok (by kernel_rfl)) (noloops (by kernel_rfl)) 18 st
  · refine calls_runO CK6_ok follows Try.func3 (by kernel_rfl) (lexAllF_ok (by kernel_rfl)) (two_loops (b1 := loopAt Try.f3 0) (b2 := loopAt Try.f3 1) (id1 := 0) (id2 := 2) (by kernel_rfl) (fun st t h => ?_) (fun st t h => ?_)) (pair_run0 iss isr s n cl) ?_ (mem_row (hv _)) rfl
    · rw [addL_same h]
      intro w0 bs pre B a w Qs Q hp hsl hm hq hQ
      exact hq.elim
    · have h := addL_other (by decide) h
      cases h
    · refine t_need rfl (t_ite (fun _ => rfl) fun h => ?_)
      exfalso
      simp only [decide_eq_false_iff_not] at h
      omega
theorem open_bools {H : Type} {enc : TypeId × Value → H} {P : Program} {W : World} {base b0 : Nat} {r : Reach} {t e : TypeId} {v : Value} {d : DataW H} {p : List MemPlace} {sp : Nat → Bool} (hn : P.cellsOf e = 1) (ht : P.underlying t = some (.slice e)) (he : P.underlying e = some .bool)
    (hv : Value.okWide P W r b0 t v) (h : DataW.Trod enc P W base sp true t v d p) :
    ∃ (n : Nat) (s : Nat → Bool), n ≤ maxLen ∧ ∀ B, BlkSat B W v (.row n 1 fun i _ => .bool (s i)) := by
  obtain ⟨len, f, h1, h2, h3⟩ := open_rows 1 hn (by omega) ht hv h
  refine ⟨len, fun i => boolV (f i 0), h2, fun B => row_congr (row_of h1 B) fun i j hi hj => ?_⟩
  obtain ⟨fuel, x, hx⟩ := h3 i hi
  obtain ⟨s, hs, _⟩ := DataW.trod_bool he hx
  obtain rfl : j = 0 := by omega
  have hs : f i 0 = .bool s := by simpa [List.range_succ] using hs
  show f i 0 = .bool (boolV (f i 0))
  rw [hs]; rfl
set_option maxRecDepth 100000 in
theorem connPair_walk {H : Type} {enc : TypeId × Value → H} {base : Nat} {v0 v1 v2 v3 : Value} {d0 d1 d2 d3 : DataW H} {p0 p1 p2 p3 : List MemPlace} {W : World} (hv0 : Value.okWide Try.prog W .any base 3 v0)
    (h0 : DataW.Trod enc Try.prog W 0 (fun _ => true) true 3 v0 d0 p0) (hv1 : Value.okWide Try.prog W .any base 3 v1) (h1 : DataW.Trod enc Try.prog W 0 (fun _ => true) true 3 v1 d1 p1)
    (hv2 : Value.okWide Try.prog W .any base 22 v2) (h2 : DataW.Trod enc Try.prog W 0 (fun _ => true) true 22 v2 d2 p2)
    (hv3 : Value.okWide Try.prog W .any base 4 v3) (h3 : DataW.Trod enc Try.prog W 0 (fun _ => true) true 4 v3 d3 p3) :
    Calls Try.prog 3 #[v0, v1, v2, v3] W fun e w' => e = .returned (.bool true) ∧ Below W.heap.size W w' := by
  obtain ⟨iss, rfl, rfl, rfl, wi⟩ := open_int Try.underlying3 hv0 h0
  obtain ⟨isr, rfl, rfl, rfl, wj⟩ := open_int Try.underlying3 hv1 h1
  obtain ⟨cl, rfl, rfl, rfl⟩ := open_bool Try.underlying4 hv3 h3
  obtain ⟨n, s, hn, hrow⟩ := open_bools (by kernel_rfl) Try.underlying22 Try.underlying4 hv2 h2
  exact pair_any iss isr s n cl v2 W hrow
end Go.Proofs.Ytodfcalaggfldaa
