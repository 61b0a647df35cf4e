/- Two sides of a connection: the anchor. No conditions. -/
import Derived.Test.YtodfcalaggfldaaCnX
import Derived.Test.YtodfcalaggfldaaTl
import Derived.Test.YtodfcalaggfldaaCnQ
namespace Go.Proofs.Ytodfcalaggfldaa
set_option linter.unusedVariables false
set_option linter.unusedSimpArgs false
open Go.RowKit Sym Go.ChangeShapes Go.WideShapes Go.ChangeMaps

theorem allOne_nil : allOneP [] := fun u hu => by cases hu
theorem allOne_cons {x : Value} {l : List Value} (h : x.oneCell' = true) (hl : allOneP l) : allOneP (x :: l) := fun u hu => by
  rcases List.mem_cons.1 hu with rfl | hu
  · exact h
  · exact hl u hu
set_option maxRecDepth 100000 in
theorem works24_run (u : Unit) : runO Try.prog (CK5 Try.prog (CnFn.mk Try.f79 Try.f81 Try.f14 Try.f41 Try.f32 Try.f29 Try.f43 Try.f39 Try.f37 Try.f30 Try.f36 Try.f40 Try.f44 Try.f33 Try.f35 Try.f31 Try.f11 Try.f13 Try.f15 Try.f9 Try.f16 Try.f6 Try.f7)) noL Try.f5 [] [] = .need (OpP 0 fun x x_1 => undef) (.need (Value.int IntKind.i64 0 = Value.int IntKind.i64 0) (.need ((8 : Int) = (8 : Int)) (.need (1 ≤ 9223372036854775807 ∧ 128 ≤ 140737488355328) (.need (allOneP [Value.int IntKind.i64 0, Value.bool true, Value.int IntKind.i64 0, Value.int IntKind.i64 0, Value.int IntKind.i64 0, Value.int IntKind.i64 0, Value.int IntKind.i64 7, Value.int IntKind.i64 0, Value.int IntKind.i64 5, Value.int IntKind.i64 0, Value.int IntKind.i64 0, Value.slice none 0 0, Value.string (ByteArray.mk (Array.mk []))]) (.need (CkPL (Pk.mk (1 : Int) true (0 : Int) (0 : Int) (0 : Int) (0 : Int) (100 : Int) (7 : Int) (5 : Int) (0 : Int) (0 : Int) (ByteArray.mk (Array.mk []))) 0 fun x x_1 => undef) (.need (Value.int IntKind.i64 0 = Value.int IntKind.i64 0) (.need (Value.bool true = Value.bool true) (.need ((0 : Int) ≤ (0 : Int) ∧ (0 : Int) < (1 : Int)) (.need ((0 : Int) ≤ (0 : Int) ∧ (0 : Int) < (1 : Int)) (.ite true (.ite true (.ite true (.need (OpP 0 fun x x_1 => undef) (.need (Value.int IntKind.i64 0 = Value.int IntKind.i64 0) (.need (1 ≤ 9223372036854775807 ∧ 128 ≤ 140737488355328) (.need (allOneP [Value.int IntKind.i64 3, Value.bool true, Value.int IntKind.i64 0, Value.int IntKind.i64 0, Value.int IntKind.i64 0, Value.int IntKind.i64 0, Value.int IntKind.i64 8, Value.int IntKind.i64 100, Value.int IntKind.i64 0, Value.int IntKind.i64 0, Value.int IntKind.i64 0, Value.slice none 0 0, Value.string (ByteArray.mk (Array.mk []))]) (.need ((8 : Int) = (8 : Int)) (.leaf (Value.bool true))))))) (.leaf (Value.bool false))) (.leaf (Value.bool false))) (.leaf (Value.bool false)))))))))))) := by kernel_rfl
theorem mem_none (w : World) : Mem w [] [] [] w := by
  refine ⟨⟨rfl, fun k x u h => by simp at h, ?_, ?_⟩, .refl _ _, ?_⟩
  · rintro k j b ⟨x, u, h, -⟩; simp at h
  · rintro k j b ⟨x, u, h, -⟩; simp at h
  · rintro k b ⟨x, u, h, -⟩; simp at h
theorem works24_any (w : World) : Calls Try.prog 5 #[] w fun e w' => e = .returned (.bool true) ∧ Below w.heap.size w w' := by
  refine calls_runO CK5_ok follows Try.func5 (by kernel_rfl) (lexAllF_ok (by kernel_rfl)) (noloops (by kernel_rfl)) (works24_run ()) ?_ (mem_none w) rfl
  repeat' (first | (with_reducible refine t_need ?_ ?_) | (with_reducible refine t_ite ?_ ?_; all_goals intro h) | (with_reducible refine t_leaf ?_))
  all_goals first
    | rfl | exact opP_nil | (exact ckPL_nil _ (by show ByteArray.size ⟨⟨[]⟩⟩ ≤ 1000000; decide)) | decide | ((repeat (refine allOne_cons rfl ?_)); exact allOne_nil) | (cases h; done) | (exact absurd h (by decide))
end Go.Proofs.Ytodfcalaggfldaa
