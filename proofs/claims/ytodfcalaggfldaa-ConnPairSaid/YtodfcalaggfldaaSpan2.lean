/- Which numbers of packets are valid: contracts of package span, on. No conditions. -/
import Derived.Test.YtodfcalaggfldaaSpan
import Derived.Test.YtodfcalaggfldaaPlSpan2
namespace Go.Proofs.Ytodfcalaggfldaa
set_option linter.unusedVariables false
set_option linter.unusedSimpArgs false
open Go.RowKit Go.ChangeShapes Go.WideShapes

theorem span_valid (m : Span.Marks) (k s a : Int) (w : World) : Calls Try.prog 75 #[m.v, .int .i64 k, .int .i64 s, .int .i64 a] w fun e w' => e = .returned (.int .i64 (Span.valid m k s a)) ∧ Below w.heap.size w w' := by
  have HS : Hid (∀ r, (if (Head.size k true == 0) = true then 7 else if Span.numbered m k s = false then 12 else if Head.acks k = true ∧ Span.acks m k a = false then 13 else 0) = r → Span.valid m k s a = r) := fun r h => by rw [← h]; unfold Span.valid; simp only [beq_iff_eq]
  generalize Span.valid m k s a = r at *
  go_enter Try.func75, Try.ntmps75
  go_wp2_with fail
  refine (head_size _ _ _).mono ?_
  generalize Head.size k true = n at *
  rintro e w1 ⟨rfl, hb⟩; have hz := hb.size; (try simp only [World.size_alloc, World.size_setCell, World.size_drew, size_drewN] at hz); apply own_step (B := w.heap.size) hb; (focus (repeat (first | (with_reducible assumption) | (with_reducible exact own_new _ _ _) | ((with_reducible apply own_new'); focus (first | omega | (simp; done) | (simp; omega))) | (with_reducible apply own_drewN) | (with_reducible apply own_drew) | (with_reducible apply own_alloc) | (with_reducible apply own_setT) | ((with_reducible apply own_set_otherH); focus (first | (simp; done) | (simp; omega)))))); intro hO0; have hk0 := hO0.2.1; have hl0 := hO0.1; have hf0 := hO0.2.2; (try simp only [List.setIfInBounds_toArray, List.set_cons_zero, List.set_cons_succ] at hO0 hk0)
  go_wp2_with fail
  · go_returns
    exact ⟨ret_i (HS.out 7 (by simp [*])).symm, by (repeat' (first | (with_reducible exact Below.refl _ _) | (with_reducible refine below_alloc ?_ _) | (with_reducible refine Below.drew ?_) | (with_reducible refine below_drewN ?_ _) | (with_reducible refine Below.setCell ?_ ?_ _) | (with_reducible assumption) | (with_reducible refine below_of ?_ (by assumption)) | omega | (simp only [World.size_alloc, World.size_setCell, World.size_drew, size_drewN] at *; omega) | (simp; omega)))⟩
  · refine (span_numbered m _ _ _).mono ?_
    generalize Span.numbered m k s = nm at *
    rintro e w1 ⟨rfl, hb⟩; have hz := hb.size; (try simp only [World.size_alloc, World.size_setCell, World.size_drew, size_drewN] at hz); apply own_step (B := w.heap.size) hb; (focus (repeat (first | (with_reducible assumption) | (with_reducible exact own_new _ _ _) | ((with_reducible apply own_new'); focus (first | omega | (simp; done) | (simp; omega))) | (with_reducible apply own_drewN) | (with_reducible apply own_drew) | (with_reducible apply own_alloc) | (with_reducible apply own_setT) | ((with_reducible apply own_set_otherH); focus (first | (simp; done) | (simp; omega)))))); intro hO0; have hk0 := hO0.2.1; have hl0 := hO0.1; have hf0 := hO0.2.2; (try simp only [List.setIfInBounds_toArray, List.set_cons_zero, List.set_cons_succ] at hO0 hk0)
    cases nm
    · go_wp2
      go_returns
      exact ⟨ret_i (HS.out 12 (by simp [*])).symm, by (repeat' (first | (with_reducible exact Below.refl _ _) | (with_reducible refine below_alloc ?_ _) | (with_reducible refine Below.drew ?_) | (with_reducible refine below_drewN ?_ _) | (with_reducible refine Below.setCell ?_ ?_ _) | (with_reducible assumption) | (with_reducible refine below_of ?_ (by assumption)) | omega | (simp only [World.size_alloc, World.size_setCell, World.size_drew, size_drewN] at *; omega) | (simp; omega)))⟩
    · go_wp2_with fail
      refine (head_acks _ _).mono ?_
      generalize Head.acks k = ac at *
      rintro e w1 ⟨rfl, hb⟩; have hz := hb.size; (try simp only [World.size_alloc, World.size_setCell, World.size_drew, size_drewN] at hz); apply own_step (B := w.heap.size) hb; (focus (repeat (first | (with_reducible assumption) | (with_reducible exact own_new _ _ _) | ((with_reducible apply own_new'); focus (first | omega | (simp; done) | (simp; omega))) | (with_reducible apply own_drewN) | (with_reducible apply own_drew) | (with_reducible apply own_alloc) | (with_reducible apply own_setT) | ((with_reducible apply own_set_otherH); focus (first | (simp; done) | (simp; omega)))))); intro hO0; have hk0 := hO0.2.1; have hl0 := hO0.1; have hf0 := hO0.2.2; (try simp only [List.setIfInBounds_toArray, List.set_cons_zero, List.set_cons_succ] at hO0 hk0)
      cases ac
      · go_wp2
        go_returns
        exact ⟨ret_i (HS.out 0 (by simp [*])).symm, by (repeat' (first | (with_reducible exact Below.refl _ _) | (with_reducible refine below_alloc ?_ _) | (with_reducible refine Below.drew ?_) | (with_reducible refine below_drewN ?_ _) | (with_reducible refine Below.setCell ?_ ?_ _) | (with_reducible assumption) | (with_reducible refine below_of ?_ (by assumption)) | omega | (simp only [World.size_alloc, World.size_setCell, World.size_drew, size_drewN] at *; omega) | (simp; omega)))⟩
      · go_wp2_with fail
        refine (span_acks m _ _ _).mono ?_
        generalize Span.acks m k a = ok at *
        rintro e w1 ⟨rfl, hb⟩; have hz := hb.size; (try simp only [World.size_alloc, World.size_setCell, World.size_drew, size_drewN] at hz); apply own_step (B := w.heap.size) hb; (focus (repeat (first | (with_reducible assumption) | (with_reducible exact own_new _ _ _) | ((with_reducible apply own_new'); focus (first | omega | (simp; done) | (simp; omega))) | (with_reducible apply own_drewN) | (with_reducible apply own_drew) | (with_reducible apply own_alloc) | (with_reducible apply own_setT) | ((with_reducible apply own_set_otherH); focus (first | (simp; done) | (simp; omega)))))); intro hO0; have hk0 := hO0.2.1; have hl0 := hO0.1; have hf0 := hO0.2.2; (try simp only [List.setIfInBounds_toArray, List.set_cons_zero, List.set_cons_succ] at hO0 hk0)
        cases ok
        · go_wp2
          go_returns
          exact ⟨ret_i (HS.out 13 (by simp [*])).symm, by (repeat' (first | (with_reducible exact Below.refl _ _) | (with_reducible refine below_alloc ?_ _) | (with_reducible refine Below.drew ?_) | (with_reducible refine below_drewN ?_ _) | (with_reducible refine Below.setCell ?_ ?_ _) | (with_reducible assumption) | (with_reducible refine below_of ?_ (by assumption)) | omega | (simp only [World.size_alloc, World.size_setCell, World.size_drew, size_drewN] at *; omega) | (simp; omega)))⟩
        · go_wp2
          go_returns
          exact ⟨ret_i (HS.out 0 (by simp [*])).symm, by (repeat' (first | (with_reducible exact Below.refl _ _) | (with_reducible refine below_alloc ?_ _) | (with_reducible refine Below.drew ?_) | (with_reducible refine below_drewN ?_ _) | (with_reducible refine Below.setCell ?_ ?_ _) | (with_reducible assumption) | (with_reducible refine below_of ?_ (by assumption)) | omega | (simp only [World.size_alloc, World.size_setCell, World.size_drew, size_drewN] at *; omega) | (simp; omega)))⟩
end Go.Proofs.Ytodfcalaggfldaa
