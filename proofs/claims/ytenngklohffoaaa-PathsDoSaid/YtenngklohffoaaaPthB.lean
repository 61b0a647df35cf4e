/- Paths: numbers of places there and back. No conditions. -/
import Derived.Test.YtenngklohffoaaaPthA
namespace Go.Proofs.Ytenngklohffoaaa
set_option linter.unusedVariables false
set_option linter.unusedSimpArgs false
open Go.RowKit Sym

def clampI (m x : Int) : Int := if m < if (0 : Int) > x then (0 : Int) else x then m else if (0 : Int) > x then (0 : Int) else x
theorem clampI_bd (m x : Int) (hm : 0 ≤ m) : 0 ≤ clampI m x ∧ clampI m x ≤ m := by unfold clampI; split <;> (try split) <;> (try split) <;> omega
theorem clampI_id (m x : Int) (h : 0 ≤ x ∧ x ≤ m) : clampI m x = x := by unfold clampI; rw [if_neg (show ¬ (0 : Int) > x by omega)]; rw [if_neg (by omega)]
theorem tdiv16 (x : Int) (h : 0 ≤ x) : x.tdiv 16 = x / 16 := Int.tdiv_eq_ediv_of_nonneg h
theorem tmod16 (x : Int) (h : 0 ≤ x) : x.tmod 16 = x % 16 := Int.tmod_eq_emod_of_nonneg h
theorem clamp15 (x : Int) : (if (15 : Int) < if (0 : Int) > x then (0 : Int) else x then (15 : Int) else if (0 : Int) > x then (0 : Int) else x) = clampI 15 x := rfl
theorem clamp255 (x : Int) : (if (255 : Int) < if (0 : Int) > x then (0 : Int) else x then (255 : Int) else if (0 : Int) > x then (0 : Int) else x) = clampI 255 x := rfl
set_option maxRecDepth 100000 in
theorem pn_ok (a b id : Int) {t : T Value} (ht : runO Try.prog (CPt2 Try.prog ⟨Try.f8, Try.f7, Try.f6, Try.f9, Try.f10, Try.f11, Try.f12, Try.f14, Try.f15, Try.f26⟩) noL Try.f3 [.v (.agg #[.int .i64 a, .int .i64 b]), .v (.int .i64 id)] [] = t) : t.ok fun x => x = .bool true := by
  subst ht
  rw [pn_run]
  have hA := clampI_bd 15 a (by omega)
  have hB := clampI_bd 15 b (by omega)
  have hN := clampI_bd 255 id (by omega)
  rw [clamp15 a, clamp15 b, clamp255 id]
  generalize clampI 15 a = A at *
  generalize clampI 15 b = B at *
  generalize clampI 255 id = N at *
  have w1 : IntKind.i64.wrap (16 * A) = 16 * A := w64 _ (by omega) (by omega)
  have w2 : IntKind.i64.wrap (16 * A + B) = 16 * A + B := w64 _ (by omega) (by omega)
  have c1 : clampI 255 (16 * A + B) = 16 * A + B := clampI_id _ _ (by omega)
  have d1 : N.tdiv 16 = N / 16 := tdiv16 _ (by omega)
  have d2 : N.tmod 16 = N % 16 := tmod16 _ (by omega)
  have d3 : (16 * A + B).tdiv 16 = A := by rw [tdiv16 _ (by omega)]; omega
  have d4 : (16 * A + B).tmod 16 = B := by rw [tmod16 _ (by omega)]; omega
  have w3 : IntKind.i64.wrap (N / 16) = N / 16 := w64 _ (by omega) (by omega)
  have c2 : clampI 15 (N / 16) = N / 16 := clampI_id _ _ (by omega)
  have c3 : clampI 15 (N % 16) = N % 16 := clampI_id _ _ (by omega)
  have w4 : IntKind.i64.wrap (16 * (N / 16)) = 16 * (N / 16) := w64 _ (by omega) (by omega)
  have w5 : IntKind.i64.wrap (16 * (N / 16) + N % 16) = N := by rw [w64 _ (by omega) (by omega)]; omega
  have w6 : IntKind.i64.wrap A = A := w64 _ (by omega) (by omega)
  rw [w1, w2, clamp255 (16 * A + B), c1, d1, d2, d3, d4, w3, clamp15 (N / 16), clamp15 (N % 16), c2, c3, w4, w5, w6]
  refine t_ite (fun h => by cases h) fun _ => t_ite (fun _ => t_ite (fun _ => t_ite (fun _ => t_leaf (by simp)) fun h => by simp at h) fun h => by simp at h) fun h => by simp at h
theorem newPt (w : World) : Calls Try.prog 13 #[] w fun e w' => e = .returned (.pointer (some ⟨w.heap.size + 1, 0, none⟩)) ∧ w' = (w.alloc (.map #[] 0)).alloc (.cells #[.map (some w.heap.size)] 64) := by
  have hmm := @run_makeMap Try.prog
  go_enter Try.func13, Try.ntmps13
  go_wp2
  go_ret
  exact ⟨rfl, rfl⟩
theorem fNewPt_ok : EntryOk Try.prog 13 fNewPt := by
  intro ss H t ht bs B w vs hm hv Qs hq
  unfold fNewPt at ht
  split at ht
  · rw [Option.some.injEq] at ht
    subst ht
    obtain rfl := tos_nil hv
    refine (newPt w).mono ?_
    rintro e w' ⟨rfl, rfl⟩
    have hB : B = [] := List.eq_nil_of_length_eq_zero hm.sat.len
    subst hB
    have m1 := hm.add (y := .gone) (u := .map (some w.heap.size)) (World.grownBy_alloc w (.map #[] 0) none) (fun b hb => by simp only [blockOf, Option.some.injEq] at hb; omega) trivial
    have hs : (w.alloc (.map #[] 0)).heap.size = w.heap.size + 1 := by simp
    have m2 := m1.add (y := .own [.ref 0]) (u := .pointer (some ⟨w.heap.size + 1, 0, none⟩)) (World.grownBy_alloc (w.alloc (.map #[] 0)) (.cells #[.map (some w.heap.size)] 64) none) (fun b hb => by simp only [blockOf, Option.some.injEq] at hb; omega) ⟨_, _, rfl, rfl, own_new' _ _ _ hs.symm⟩
    exact ⟨_, _, _, _, hq, List.nil_prefix, rfl, rfl, m2⟩
  · cases ht
end Go.Proofs.Ytenngklohffoaaa
