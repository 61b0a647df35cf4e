/- slices.Grow of no options; slices.Concat of options. No conditions. -/
import Derived.Test.YtodfcalaggfldaaOpA
import Derived.Lib.AppendZeros
import Derived.OwnWalk
namespace Go.Proofs.Ytodfcalaggfldaa
set_option linter.unusedVariables false
set_option linter.unusedSimpArgs false
open Go.RowKit Sym Go.ChangeShapes Go.WideShapes Go.ChangeMaps

def optZ : Value := .agg #[.int .i64 0, .string ⟨#[]⟩]
theorem opt_info : (Try.prog.info? 55).map (fun i => (i.zero, i.size, i.bytes)) = some (some optZ, 2, 24) := by kernel_rfl
set_option maxRecDepth 100000 in
set_option maxHeartbeats 4000000 in
/-- slices.Grow of the nil slice: a new row, of which nothing is taken -/
theorem grow_nil (n : Nat) (hn : 0 < n) (hb : n * 24 ≤ 140737488355328) (w : World) : Calls Try.prog 77 #[.slice none 0 0, .int .i64 n] w fun e w' =>
    e = .returned (.slice (some ⟨w.heap.size, 0, none⟩) 0 (grownCap w n 0 55)) ∧ w' = w.drew.alloc (.cells (Builtin.zeroCells optZ.cells n ++ Builtin.zeroCells optZ.cells (grownCap w n 0 55 - n)) 55) := by
  obtain ⟨i, hi, hz, hs, hy⟩ := info_parts opt_info
  have hr := fun ty => Lib.run_append_nil_zeros w 35 3 ty 55 i optZ .i64 .i64 Try.underlying35 Try.underlying3 hi hz n hn (by rw [hs]; decide) (by omega) (by rw [hy]; omega)
  have hGn : n ≤ grownCap w n 0 55 := grownCap_ge w _ _ _
  have hG63 : grownCap w n 0 55 ≤ 9223372036854775807 := by
    have := grownCap_le_maxLen w n 0 55 (by unfold maxLen; omega)
    unfold maxLen at this
    omega
  generalize grownCap w n 0 55 = G at hr hGn hG63 ⊢
  have h2 : wrap64 ((0 : Int) - 0) = 0 := by unfold wrap64; omega
  have h3 : wrap64 ((n : Int) - 0) = n := by unfold wrap64; omega
  have h4 : wrap64 (n : Int) = n := by unfold wrap64; omega
  have h5 : wrap64 (0 : Int) = 0 := by unfold wrap64; omega
  generalize Builtin.zeroCells optZ.cells n = A1 at hr ⊢
  generalize Builtin.zeroCells optZ.cells (G - n) = A2 at hr ⊢
  go_enter Try.func77, Try.ntmps77
  go_wp2_with (at_builtin; refine Lib.wpList_append_run _ rfl _ _ _ _ rfl _ _ rfl rfl _ _ (hr _) ?_)
  all_goals (go_ret; exact ⟨rfl, rfl⟩)
set_option maxRecDepth 100000 in
theorem grow_zero (w : World) : Calls Try.prog 77 #[.slice none 0 0, .int .i64 0] w fun e w' => e = .returned (.slice none 0 0) ∧ w' = w := by
  have h2 : wrap64 ((0 : Int) - 0) = 0 := by unfold wrap64; omega
  have h5 : wrap64 (0 : Int) = 0 := by unfold wrap64; omega
  go_enter Try.func77, Try.ntmps77
  go_wp2
  go_ret
  exact ⟨rfl, rfl⟩
def fGrowO : List SV → List Blk → Option (T (SV × List Blk))
  | [.v (.slice none 0 0), .v (.int .i64 z)], [] => some (.need (0 ≤ z ∧ z * 24 ≤ 140737488355328) (.leaf (.ref 0, [.vec true 55 2 0 []])))
  | _, _ => none
theorem fGrowO_ok : EntryOk Try.prog 77 fGrowO := by
  intro ss H t h bs B w vs hm hv Qs hq
  unfold fGrowO at h
  split at h
  · rename_i z
    simp only [Option.some.injEq] at h
    subst h
    obtain ⟨⟨h0, h1⟩, hq⟩ := hq
    obtain ⟨x0, r0, e0, v0, rfl⟩ := tos_cons hv
    obtain ⟨x1, r1, e1, v1, rfl⟩ := tos_cons v0
    obtain rfl := tos_nil v1
    simp only [SV.to, Option.some.injEq] at e0 e1
    subst e0 e1
    obtain ⟨n, rfl⟩ : ∃ n : Nat, z = n := ⟨z.toNat, by omega⟩
    have hB : B = [] := List.length_eq_zero_iff.1 (by simpa using hm.sat.len)
    subst hB
    by_cases hn : n = 0
    · subst hn
      refine (grow_zero w).mono ?_
      rintro e w' ⟨rfl, rfl⟩
      refine ⟨_, _, [.slice none 0 0], _, hq, List.nil_prefix, rfl, rfl, ?_⟩
      exact hm.add (y := .vec true 55 2 0 []) (u := .slice none 0 0) ⟨rfl, rfl, rfl, Nat.le_refl _, fun _ _ _ => rfl⟩ (fun b hb => by cases hb) (.inl ⟨rfl, .inl ⟨rfl, rfl⟩⟩)
    · refine (grow_nil n (by omega) (by omega) w).mono ?_
      rintro e w' ⟨rfl, rfl⟩
      refine ⟨_, _, [.slice (some ⟨w.heap.size, 0, none⟩) 0 (grownCap w n 0 55)], _, hq, List.nil_prefix, rfl, rfl, ?_⟩
      have hGn : n ≤ grownCap w n 0 55 := grownCap_ge w _ _ _
      have hGm := grownCap_le_maxLen w n 0 55 (by unfold maxLen; omega)
      generalize grownCap w n 0 55 = G at hGn hGm ⊢
      have hz : ∀ m, (Builtin.zeroCells optZ.cells m).size = m * 2 := fun m => by simp [Builtin.zeroCells, optZ, Value.cells]
      have hb0 : Below w.heap.size w (w.drew.alloc (.cells (Builtin.zeroCells optZ.cells n ++ Builtin.zeroCells optZ.cells (G - n)) 55)) := ((Below.refl _ w).drew).alloc (Nat.le_refl _) _
      refine hm.add (y := .vec true 55 2 0 []) (below_grown hb0) (fun b hb => by simp only [blockOf, Option.some.injEq] at hb; omega) (.inl ⟨rfl, .inr ⟨w.heap.size, G, _, rfl, Nat.zero_le _, heap_alloc_new w.drew _, Nat.zero_le _, hGm, ?_, by simp⟩⟩)
      rw [Array.size_append, hz, hz]; omega
  · cases h
def FGrow : LTab := addF 77 fGrowO noF
theorem FGrow_ok : LOk Try.prog FGrow := addF_ok noF_ok (by kernel_rfl) fGrowO_ok
abbrev CGrow (P : Program) : Cfg := both P noS FGrow [77]
theorem CGrow_ok : CfgOk Try.prog (CGrow Try.prog) := both_ok noS_ok FGrow_ok
def LCat (P : Program) (fn : Func) : Nat → St → Option (T (Ex × St)) :=
  addL 2 (unrollB (runC P (CGrow P) noL fn.ntmps (loopAt fn 1)) 2 3) <| addL 0 (unrollB (runC P (CGrow P) noL fn.ntmps (loopAt fn 0)) 0 3) noL
theorem fCat_ok : EntryOk Try.prog 38 (inl Try.prog (CGrow Try.prog) (LCat Try.prog Try.f38) Try.f38) :=
  inl_ok CGrow_ok follows Try.func38 (by kernel_rfl) (by kernel_rfl) (two_loops (b1 := loopAt Try.f38 0) (b2 := loopAt Try.f38 1) (id1 := 0) (id2 := 2) (by kernel_rfl)
    (fun st t h => by rw [addL_same (addL_other (by decide) h)]; exact unroll_ok CGrow_ok follows (by kernel_rfl) (noloops (by kernel_rfl)) 3 st)
    (fun st t h => by rw [addL_same h]; exact unroll_ok CGrow_ok follows (by kernel_rfl) (noloops (by kernel_rfl)) 3 st))
set_option maxRecDepth 100000 in
theorem cat_run (k : Int) (v : ByteArray) (n : Nat) (f : Nat → Nat → Value) : runF Try.prog (CGrow Try.prog) (LCat Try.prog Try.f38) Try.f38 (Try.f38.body.getD .skip) [.ref 0] [.lst 35 1 2 [.ref 1, .ref 2], .vec false 55 2 1 [.int .i64 k, .string v], .row n 2 f] = .need ((0 : Int) ≤ (0 : Int) ∧ (0 : Int) < (2 : Int)) (.ite false (T.stuck 2) (.need ((0 : Int) ≤ (1 : Int) ∧ (1 : Int) < (2 : Int)) (.ite (decide (IntKind.i64.wrap ((1 : Int) + (↑n : Int)) < (0 : Int))) (T.stuck 2) (.need ((0 : Int) ≤ IntKind.i64.wrap ((1 : Int) + (↑n : Int)) ∧ IntKind.i64.wrap ((1 : Int) + (↑n : Int)) * (24 : Int) ≤ (140737488355328 : Int)) (.need ((0 : Int) ≤ (0 : Int) ∧ (0 : Int) < (2 : Int)) (.need (1 ≤ 9223372036854775807 ∧ 24 ≤ 140737488355328) (.need (allOneP [Value.int IntKind.i64 k, Value.string v]) (.need ((0 : Int) ≤ (1 : Int) ∧ (1 : Int) < (2 : Int)) (.need (1 + n ≤ 9223372036854775807 ∧ (1 + n) * 24 ≤ 140737488355328) (.need (allOneP (rowCells n 2 f)) (.leaf (SV.ref 5, [Blk.lst 35 1 2 [SV.ref 1, SV.ref 2], Blk.vec false 55 2 1 [Value.int IntKind.i64 k, Value.string v], Blk.row n 2 f, Blk.gone, Blk.gone, Blk.vec true 55 2 (1 + n) (Value.int IntKind.i64 k :: Value.string v :: List.append._f [] PUnit.unit (rowCells n 2 f))])))))))))))) := by kernel_rfl
end Go.Proofs.Ytodfcalaggfldaa
