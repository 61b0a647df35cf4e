/- Which numbers of packets are valid: contracts of package span. No conditions. -/
import Derived.Test.YtodfcalaggfldaaCirc
import Derived.Test.YtodfcalaggfldaaHdA
import Derived.Test.YtodfcalaggfldaaPlSpan
namespace Go.Proofs.Ytodfcalaggfldaa
set_option linter.unusedVariables false
set_option linter.unusedSimpArgs false
open Go.RowKit

theorem span_begin (a b c d : Int) (w : World) : Calls Try.prog 27 #[.int .i64 a, .int .i64 b, .int .i64 c, .int .i64 d] w fun e w' => e = .returned (Span.begin a b c d).v ∧ Below w.heap.size w w' := by
  go_enter Try.func27, Try.ntmps27
  go_wp2_with (go_at_call 70; refine (circ_of _ _).mono ?_; rintro e w1 ⟨rfl, rfl⟩)
  go_returns
  exact ⟨rfl, by (repeat' (first | (with_reducible exact Below.refl _ _) | (with_reducible refine below_alloc ?_ _) | (with_reducible refine Below.drew ?_) | (with_reducible refine below_drewN ?_ _) | (with_reducible refine Below.setCell ?_ ?_ _) | (with_reducible assumption) | (with_reducible refine below_of ?_ (by assumption)) | omega | (simp only [World.size_alloc, World.size_setCell, World.size_drew, size_drewN] at *; omega) | (simp; omega)))⟩
theorem span_limits (m : Span.Marks) (w : World) : Calls Try.prog 126 #[m.v] w fun e w' => e = .returned (.tuple #[.int .i64 (Span.swl m), .int .i64 (Span.swh m), .int .i64 (Span.awl m), .int .i64 (Span.awh m)]) ∧ Below w.heap.size w w' := by
  obtain ⟨iss, isr, gss, gsr, gar⟩ := m
  go_enter Try.func126, Try.ntmps126
  go_wp2
  go_quiet (first | (go_at_call 28; first | exact quiet_left (circ_add _ _ _) | exact quiet_add_left (circ_add _ _ _)) | (go_at_call 76; first | exact quiet_left (circ_later _ _ _) | exact quiet_add_left (circ_later _ _ _)))
  go_wp2
  go_quiet (first | (go_at_call 28; first | exact quiet_left (circ_add _ _ _) | exact quiet_add_left (circ_add _ _ _)) | (go_at_call 76; first | exact quiet_left (circ_later _ _ _) | exact quiet_add_left (circ_later _ _ _)))
  go_wp2
  go_quiet (first | (go_at_call 28; first | exact quiet_left (circ_add _ _ _) | exact quiet_add_left (circ_add _ _ _)) | (go_at_call 70; first | exact quiet_left (circ_of _ _) | exact quiet_add_left (circ_of _ _)))
  go_wp2
  go_returns
  exact ⟨rfl, by (repeat' (first | (with_reducible exact Below.refl _ _) | (with_reducible refine below_alloc ?_ _) | (with_reducible refine Below.drew ?_) | (with_reducible refine below_drewN ?_ _) | (with_reducible refine Below.setCell ?_ ?_ _) | (with_reducible assumption) | (with_reducible refine below_of ?_ (by assumption)) | omega | (simp only [World.size_alloc, World.size_setCell, World.size_drew, size_drewN] at *; omega) | (simp; omega)))⟩
theorem span_ending (k : Int) (w : World) : Calls Try.prog 127 #[.int .i64 k] w fun e w' => e = .returned (.bool (Span.ending k)) ∧ w = w' := by
  go_enter Try.func127, Try.ntmps127
  go_wp2
  all_goals (go_returns; go_light)
  all_goals exact ⟨ret_b (by (first | rfl | (rw [Bool.eq_iff_iff]; simp [Span.ending]; done) | (rw [Bool.eq_iff_iff]; simp [Span.ending]; omega))), rfl⟩
theorem span_numbered (m : Span.Marks) (k s : Int) (w : World) : Calls Try.prog 115 #[m.v, .int .i64 k, .int .i64 s] w fun e w' => e = .returned (.bool (Span.numbered m k s)) ∧ Below w.heap.size w w' := by
  by_cases h8 : k = 8 ∨ k = 9
  · have hr : Span.numbered m k s = !Circ.less s (Span.swl m) := if_pos h8
    rw [hr]
    clear hr
    rcases h8 with rfl | rfl
    all_goals
      go_enter Try.func115, Try.ntmps115
      go_wp2_with (first | (go_at_call 126; refine (span_limits _ _).mono ?_; rintro e w1 ⟨rfl, hb⟩; have hz := hb.size; obtain ⟨hc, hf⟩ := bcell hb; (try simp only [World.size_alloc, World.size_setCell, World.size_drew, size_drewN] at hz)) | (go_at_call 117; refine (circ_less _ _ _).mono ?_; rintro e w1 ⟨rfl, rfl⟩))
      all_goals (go_returns; exact ⟨rfl, by (repeat' (first | (with_reducible exact Below.refl _ _) | (with_reducible refine below_alloc ?_ _) | (with_reducible refine Below.drew ?_) | (with_reducible refine below_drewN ?_ _) | (with_reducible refine Below.setCell ?_ ?_ _) | (with_reducible assumption) | (with_reducible refine below_of ?_ (by assumption)) | omega | (simp only [World.size_alloc, World.size_setCell, World.size_drew, size_drewN] at *; omega) | (simp; omega)))⟩)
  · have hr : Span.numbered m k s = if Span.ending k = true then Circ.within s (Circ.add m.gsr 1) (Span.swh m) else Circ.within s (Span.swl m) (Span.swh m) := if_neg h8
    rw [hr]
    have e8 : (k == 8) = false := by simp; omega
    have e9 : (k == 9) = false := by simp; omega
    clear hr h8
    generalize he : Span.ending k = en
    have He := Lib.hid he
    clear he
    go_enter Try.func115, Try.ntmps115
    go_wp2_with (first | (go_at_call 126; refine (span_limits _ _).mono ?_; rintro e w1 ⟨rfl, hb⟩; have hz := hb.size; obtain ⟨hc, hf⟩ := bcell hb; (try simp only [World.size_alloc, World.size_setCell, World.size_drew, size_drewN] at hz)) | (go_at_call 127; refine (span_ending _ _).mono ?_; rw [He.out]; rintro e w1 ⟨rfl, rfl⟩) | (go_at_call 28; refine (circ_add _ _ _).mono ?_; rintro e w1 ⟨rfl, rfl⟩) | (go_at_call 72; refine (circ_within _ _ _ _).mono ?_; rintro e w1 ⟨rfl, rfl⟩))
    all_goals (go_returns; go_light; exact ⟨ret_b (by simp [*]), by (repeat' (first | (with_reducible exact Below.refl _ _) | (with_reducible refine below_alloc ?_ _) | (with_reducible refine Below.drew ?_) | (with_reducible refine below_drewN ?_ _) | (with_reducible refine Below.setCell ?_ ?_ _) | (with_reducible assumption) | (with_reducible refine below_of ?_ (by assumption)) | omega | (simp only [World.size_alloc, World.size_setCell, World.size_drew, size_drewN] at *; omega) | (simp; omega)))⟩)
theorem span_acks (m : Span.Marks) (k a : Int) (w : World) : Calls Try.prog 116 #[m.v, .int .i64 k, .int .i64 a] w fun e w' => e = .returned (.bool (Span.acks m k a)) ∧ Below w.heap.size w w' := by
  have hr : Span.acks m k a = if Span.ending k = true then Circ.within a m.gar (Span.awh m) else Circ.within a (Span.awl m) (Span.awh m) := by unfold Span.acks; split <;> rfl
  rw [hr]
  clear hr
  generalize he : Span.ending k = en
  have He := Lib.hid he
  clear he
  go_enter Try.func116, Try.ntmps116
  go_wp2_with (first | (go_at_call 126; refine (span_limits _ _).mono ?_; rintro e w1 ⟨rfl, hb⟩; have hz := hb.size; obtain ⟨hc, hf⟩ := bcell hb; (try simp only [World.size_alloc, World.size_setCell, World.size_drew, size_drewN] at hz)) | (go_at_call 127; refine (span_ending _ _).mono ?_; rw [He.out]; rintro e w1 ⟨rfl, rfl⟩) | (go_at_call 72; refine (circ_within _ _ _ _).mono ?_; rintro e w1 ⟨rfl, rfl⟩))
  all_goals (go_returns; go_light; exact ⟨ret_b (by simp [*]), by (repeat' (first | (with_reducible exact Below.refl _ _) | (with_reducible refine below_alloc ?_ _) | (with_reducible refine Below.drew ?_) | (with_reducible refine below_drewN ?_ _) | (with_reducible refine Below.setCell ?_ ?_ _) | (with_reducible assumption) | (with_reducible refine below_of ?_ (by assumption)) | omega | (simp only [World.size_alloc, World.size_setCell, World.size_drew, size_drewN] at *; omega) | (simp; omega)))⟩)
theorem span_came (m : Span.Marks) (k s a : Int) (w : World) : Calls Try.prog 34 #[m.v, .int .i64 k, .int .i64 s, .int .i64 a] w fun e w' => e = .returned (Span.came m k s a).v ∧ Below w.heap.size w w' := by
  unfold Span.came
  generalize he : Head.acks k = en
  have He := Lib.hid he
  clear he
  go_enter Try.func34, Try.ntmps34
  go_wp2_with (first | (go_at_call 74; refine (head_acks _ _).mono ?_; rw [He.out]; rintro e w1 ⟨rfl, hb⟩; have hz := hb.size; (try simp only [World.size_alloc, World.size_setCell, World.size_drew, size_drewN] at hz); apply own_step (B := w.heap.size) hb; (focus (repeat (first | (with_reducible assumption) | (with_reducible exact own_new _ _ _) | ((with_reducible apply own_new'); focus (first | omega | (simp; done) | (simp; omega))) | (with_reducible apply own_drewN) | (with_reducible apply own_drew) | (with_reducible apply own_alloc) | (with_reducible apply own_setT) | ((with_reducible apply own_set_otherH); focus (first | (simp; done) | (simp; omega)))))); intro hO0; have hk0 := hO0.2.1; have hl0 := hO0.1; have hf0 := hO0.2.2; (try simp only [List.setIfInBounds_toArray, List.set_cons_zero, List.set_cons_succ] at hO0 hk0); apply own_step (B := w.heap.size + 1) hb; (focus (repeat (first | (with_reducible assumption) | (with_reducible exact own_new _ _ _) | ((with_reducible apply own_new'); focus (first | omega | (simp; done) | (simp; omega))) | (with_reducible apply own_drewN) | (with_reducible apply own_drew) | (with_reducible apply own_alloc) | (with_reducible apply own_setT) | ((with_reducible apply own_set_otherH); focus (first | (simp; done) | (simp; omega)))))); intro hO1; have hk1 := hO1.2.1; have hl1 := hO1.1; have hf1 := hO1.2.2; (try simp only [List.setIfInBounds_toArray, List.set_cons_zero, List.set_cons_succ] at hO1 hk1)) | (go_at_call 76; refine (circ_later _ _ _).mono ?_; rintro e w1 ⟨rfl, rfl⟩))
  all_goals (((try simp only [Exit.inBlock, Exit.then]); refine bodyPost_ret (by simp [results, Try.results34, go_sem, hk0, hk1]; try rfl) rfl ?_); go_light; refine ⟨?_, by (repeat' (first | (with_reducible exact Below.refl _ _) | (with_reducible refine below_alloc ?_ _) | (with_reducible refine Below.drew ?_) | (with_reducible refine below_drewN ?_ _) | (with_reducible refine Below.setCell ?_ ?_ _) | (with_reducible assumption) | (with_reducible refine below_of ?_ (by assumption)) | omega | (simp only [World.size_alloc, World.size_setCell, World.size_drew, size_drewN] at *; omega) | (simp; omega)))⟩)
  all_goals simp [*]
theorem span_sent (m : Span.Marks) (w : World) : Calls Try.prog 78 #[m.v] w fun e w' => e = .returned (.tuple #[(Span.sent m).v, .int .i64 (Span.sent m).gss]) ∧ Below w.heap.size w w' := by
  go_enter Try.func78, Try.ntmps78
  go_wp2_with ((go_at_call 28; refine (circ_add _ _ _).mono ?_; rintro e w1 ⟨rfl, rfl⟩))
  go_region
  go_wp2
  go_returns
  exact ⟨rfl, by (repeat' (first | (with_reducible exact Below.refl _ _) | (with_reducible refine below_alloc ?_ _) | (with_reducible refine Below.drew ?_) | (with_reducible refine below_drewN ?_ _) | (with_reducible refine Below.setCell ?_ ?_ _) | (with_reducible assumption) | (with_reducible refine below_of ?_ (by assumption)) | omega | (simp only [World.size_alloc, World.size_setCell, World.size_drew, size_drewN] at *; omega) | (simp; omega)))⟩
end Go.Proofs.Ytodfcalaggfldaa
