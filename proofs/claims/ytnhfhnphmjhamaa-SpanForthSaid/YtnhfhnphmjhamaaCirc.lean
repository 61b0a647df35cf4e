/- Numbers of 48 bits, round: contracts of package circ and of the reference anabranchref02. No conditions. -/
import Derived.Test.YtnhfhnphmjhamaaBase
import Derived.Test.YtnhfhnphmjhamaaPlCirc
namespace Go.Proofs.Ytnhfhnphmjhamaa
set_option linter.unusedVariables false
set_option linter.unusedSimpArgs false
open Go.RowKit

theorem circ_of (n : Int) (w : World) : Calls Try.prog 62 #[.int .i64 n] w fun e w' => e = .returned (.int .i64 (Circ.of n)) ∧ w = w' := by
  have H : bits .and .i64 n 281474976710655 = Circ.of n := Circ.and_mask n
  go_enter Try.func62, Try.ntmps62
  go_wp2
  go_ret
  exact ⟨rfl, rfl⟩
theorem circ_add (a n : Int) (w : World) : Calls Try.prog 65 #[.int .i64 a, .int .i64 n] w fun e w' => e = .returned (.int .i64 (Circ.add a n)) ∧ w = w' := by
  have h1 := Circ.of_lo a
  have h2 := Circ.of_hi a
  have h3 := Circ.of_lo n
  have h4 := Circ.of_hi n
  have H : bits .and .i64 (Circ.of a + Circ.of n) 281474976710655 = Circ.add a n := Circ.and_mask _
  go_enter Try.func65, Try.ntmps65
  go_wp2_with (go_at_call 62; refine (circ_of _ _).mono ?_; rintro e w1 ⟨rfl, rfl⟩)
  go_ret
  exact ⟨rfl, rfl⟩
theorem circ_up (a n : Int) (w : World) : Calls Try.prog 124 #[.int .i64 a, .int .i64 n] w fun e w' => e = .returned (.int .i64 (Circ.up a n)) ∧ w = w' := by
  have h1 := Circ.of_lo a
  have h2 := Circ.of_hi a
  have h3 := Circ.of_lo n
  have h4 := Circ.of_hi n
  have H : bits .and .i64 (Circ.of n - Circ.of a) 281474976710655 = Circ.up a n := Circ.and_mask _
  go_enter Try.func124, Try.ntmps124
  go_wp2_with (go_at_call 62; refine (circ_of _ _).mono ?_; rintro e w1 ⟨rfl, rfl⟩)
  go_ret
  exact ⟨rfl, rfl⟩
theorem circ_far (a b : Int) (w : World) : Calls Try.prog 123 #[.int .i64 a, .int .i64 b] w fun e w' => e = .returned (.int .i64 (Circ.far a b)) ∧ w = w' := by
  have h1 := Circ.up_lo b a
  have h2 := Circ.up_hi b a
  go_enter Try.func123, Try.ntmps123
  go_wp2_with (go_at_call 124; refine (circ_up _ _ _).mono ?_; rintro e w1 ⟨rfl, rfl⟩)
  all_goals (go_ret; go_light; exact ⟨ret_i (by simp (disch := omega) only [Circ.far, if_pos, if_neg]), rfl⟩)
theorem circ_less (a b : Int) (w : World) : Calls Try.prog 102 #[.int .i64 a, .int .i64 b] w fun e w' => e = .returned (.bool (Circ.less a b)) ∧ w = w' := by
  go_enter Try.func102, Try.ntmps102
  go_wp2_with (go_at_call 123; refine (circ_far _ _ _).mono ?_; rintro e w1 ⟨rfl, rfl⟩)
  go_ret
  exact ⟨rfl, rfl⟩
theorem circ_later (a b : Int) (w : World) : Calls Try.prog 66 #[.int .i64 a, .int .i64 b] w fun e w' => e = .returned (.int .i64 (Circ.later a b)) ∧ w = w' := by
  go_enter Try.func66, Try.ntmps66
  go_wp2_with (first | (go_at_call 102; refine (circ_less _ _ _).mono ?_; rintro e w1 ⟨rfl, rfl⟩) | (go_at_call 62; refine (circ_of _ _).mono ?_; rintro e w1 ⟨rfl, rfl⟩))
  all_goals (go_ret; go_light; exact ⟨by simp [Circ.later, *], rfl⟩)
theorem circ_within (n a b : Int) (w : World) : Calls Try.prog 104 #[.int .i64 n, .int .i64 a, .int .i64 b] w fun e w' => e = .returned (.bool (Circ.within n a b)) ∧ w = w' := by
  go_enter Try.func104, Try.ntmps104
  go_wp2_with (go_at_call 124; refine (circ_up _ _ _).mono ?_; rintro e w1 ⟨rfl, rfl⟩)
  go_ret
  exact ⟨rfl, rfl⟩

/-! the reference -/
theorem ref02_of (n : Int) (w : World) : Calls Try.prog 105 #[.int .i64 n] w fun e w' => e = .returned (.int .i64 (Circ.of n)) ∧ w = w' := by
  have h1 := Circ.tmod_lo n
  have h2 := Circ.tmod_hi n
  go_enter Try.func105, Try.ntmps105
  go_wp2
  all_goals (go_ret; go_light)
  · exact ⟨ret_v (by rw [← Circ.tmod_neg (by assumption)]; rfl), rfl⟩
  · exact ⟨ret_v (by rw [← Circ.tmod_pos (by omega)]; rfl), rfl⟩
theorem ref02_far (a b : Int) (w : World) : Calls Try.prog 67 #[.int .i64 a, .int .i64 b] w fun e w' => e = .returned (.int .i64 (Circ.far a b)) ∧ w = w' := by
  have h1 := Circ.of_lo a
  have h2 := Circ.of_hi a
  have h3 := Circ.of_lo b
  have h4 := Circ.of_hi b
  have HF := Lib.hid (Circ.far_steps a b)
  go_enter Try.func67, Try.ntmps67
  go_wp2_with (go_at_call 105; refine (ref02_of _ _).mono ?_; rintro e w1 ⟨rfl, rfl⟩)
  have hd1 : -281474976710656 < Circ.of a - Circ.of b := by omega
  have hd2 : Circ.of a - Circ.of b < 281474976710656 := by omega
  generalize Circ.of a - Circ.of b = d at *
  go_loop [5] (fun n => n = .int .i64 d ∨ (140737488355328 < d ∧ n = .int .i64 (d - 281474976710656))) (fun n => (intOf n).toNat)
  case atStart => exact .inl rfl
  case round =>
    rcases hrel with rfl | ⟨hd, rfl⟩
    · by_cases hd : 140737488355328 < d
      · go_wp2
        go_round
        case rel => exact .inr ⟨hd, rfl⟩
        case measure => simp [intOf]; omega
      · go_wp2
        go_loop [5] (fun n => n = .int .i64 d ∨ (d ≤ -140737488355328 ∧ n = .int .i64 (d + 281474976710656))) (fun n => (281474976710656 - intOf n).toNat)
        case atStart => exact .inl rfl
        case round =>
          rcases hrel with rfl | ⟨he, rfl⟩
          · by_cases he : d ≤ -140737488355328
            · go_wp2
              go_round
              case rel => exact .inr ⟨he, rfl⟩
              case measure => simp [intOf]; omega
            · go_wp2
              go_ret
              exact ⟨ret_i (by rw [← HF.out]; unfold Circ.far1 Circ.far2; rw [if_neg (by omega), if_neg (by omega)]), rfl⟩
          · go_wp2
            go_ret
            exact ⟨ret_i (by rw [← HF.out]; rw [show Circ.far1 d = d from if_neg (by omega)]; exact (if_pos he).symm), rfl⟩
    · go_wp2
      go_loop [5] (fun n => n = .int .i64 (d - 281474976710656)) (fun n => 0)
      case atStart => rfl
      case round =>
        subst hrel
        go_wp2
        go_ret
        exact ⟨ret_i (by rw [← HF.out]; unfold Circ.far1 Circ.far2; rw [if_pos hd, if_neg (by omega)]), rfl⟩
theorem ref02_less (a b : Int) (w : World) : Calls Try.prog 26 #[.int .i64 a, .int .i64 b] w fun e w' => e = .returned (.bool (Circ.less a b)) ∧ w = w' := by
  go_enter Try.func26, Try.ntmps26
  go_wp2_with (go_at_call 67; refine (ref02_far _ _ _).mono ?_; rintro e w1 ⟨rfl, rfl⟩)
  go_ret
  exact ⟨rfl, rfl⟩
end Go.Proofs.Ytnhfhnphmjhamaa
