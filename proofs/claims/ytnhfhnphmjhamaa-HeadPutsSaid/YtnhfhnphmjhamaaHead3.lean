/- What is wrong with a beginning: the contract of head.Check. No conditions. -/
import Derived.Test.YtnhfhnphmjhamaaHead2
import Derived.Deep.RegionHeld3
namespace Go.Proofs.Ytnhfhnphmjhamaa
set_option linter.unusedVariables false
set_option linter.unusedSimpArgs false
open Go.RowKit

set_option maxRecDepth 100000 in
set_option maxHeartbeats 4000000 in
theorem head_check_long (src dst words ccval cover sum kind seq : Int) (w : World) (hk : Head.known kind = true) :
    Calls Try.prog 41 #[(⟨src, dst, words, ccval, cover, sum, kind, true, seq⟩ : Head.H).v] w fun e w' => e = .returned (.int .i64 (Head.check ⟨src, dst, words, ccval, cover, sum, kind, true, seq⟩)) ∧ Below w.heap.size w w' := by
  have hcheck : Head.check ⟨src, dst, words, ccval, cover, sum, kind, true, seq⟩ = if Head.wi src 65535 = false then 3 else if Head.wi dst 65535 = false then 3 else if Head.wi sum 65535 = false then 3 else if Head.wi ccval 15 = false then 3 else if Head.wi cover 15 = false then 3
      else if Head.wi seq 281474976710655 = false then 3 else if Head.wi words 255 = false then 3 else if 4 * words < Head.size kind true then 1 else 0 := by
    unfold Head.check
    simp only [hk, Bool.true_eq_false, Bool.false_eq_true, false_and, and_false, if_false, Head.most, if_true]
    cases Head.wi src 65535 <;> cases Head.wi dst 65535 <;> cases Head.wi sum 65535 <;> cases Head.wi ccval 15 <;> cases Head.wi cover 15 <;> simp
    cases Head.wi words 255 <;> simp
  rw [hcheck]
  clear hcheck
  have HK := Lib.hid hk
  have hw : Head.wi words 255 = true → 0 ≤ words ∧ words ≤ 255 := by unfold Head.wi; simp only [decide_eq_true_eq]; exact id
  have HW := Lib.hid hw
  clear hk hw
  generalize hw1 : Head.wi src 65535 = b1
  generalize hw2 : Head.wi dst 65535 = b2
  generalize hw3 : Head.wi sum 65535 = b3
  generalize hw4 : Head.wi ccval 15 = b4
  generalize hw5 : Head.wi cover 15 = b5
  generalize hw6 : Head.wi seq 281474976710655 = b6
  generalize hw7 : Head.wi words 255 = b7 at HW
  generalize hsz : Head.size kind true = n
  have H1 := Lib.hid hw1
  have H2 := Lib.hid hw2
  have H3 := Lib.hid hw3
  have H4 := Lib.hid hw4
  have H5 := Lib.hid hw5
  have H6 := Lib.hid hw6
  have H7 := Lib.hid hw7
  have H8 := Lib.hid hsz
  clear hw1 hw2 hw3 hw4 hw5 hw6 hw7 hsz
  go_enter Try.func41, Try.ntmps41
  go_wp2_with fail
  refine (head_of _ _).mono ?_
  rw [HK.out]
  rintro e w1 ⟨rfl, hb⟩; have hz := hb.size; (try simp only [World.size_alloc, World.size_setCell, World.size_drew, size_drewN] at hz); apply own_step (B := w.heap.size) hb; (focus (repeat (first | (with_reducible assumption) | (with_reducible exact own_new _ _ _) | ((with_reducible apply own_new'); focus (first | omega | (simp; done) | (simp; omega))) | (with_reducible apply own_drewN) | (with_reducible apply own_drew) | (with_reducible apply own_alloc) | (with_reducible apply own_setT) | ((with_reducible apply own_set_otherH); focus (first | (simp; done) | (simp; omega)))))); intro hO0; have hk0 := hO0.2.1; have hl0 := hO0.1; have hf0 := hO0.2.2; (try simp only [List.setIfInBounds_toArray, List.set_cons_zero, List.set_cons_succ] at hO0 hk0)
  cases b1
  · go_wp2_with (go_at_call 82; refine (head_within _ _ _).mono ?_; (first | rw [H1.out] | rw [H2.out] | rw [H3.out] | rw [H4.out] | rw [H5.out] | rw [H6.out] | rw [H7.out]); rintro e w1 ⟨rfl, rfl⟩)
    go_returns
    exact ⟨rfl, by (repeat' (first | (with_reducible exact Below.refl _ _) | (with_reducible refine below_alloc ?_ _) | (with_reducible refine Below.drew ?_) | (with_reducible refine below_drewN ?_ _) | (with_reducible refine Below.setCell ?_ ?_ _) | (with_reducible assumption) | (with_reducible refine below_of ?_ (by assumption)) | omega | (simp only [World.size_alloc, World.size_setCell, World.size_drew, size_drewN] at *; omega) | (simp; omega)))⟩
  · skip
    cases b2
    · go_wp2_with (go_at_call 82; refine (head_within _ _ _).mono ?_; (first | rw [H1.out] | rw [H2.out] | rw [H3.out] | rw [H4.out] | rw [H5.out] | rw [H6.out] | rw [H7.out]); rintro e w1 ⟨rfl, rfl⟩)
      go_returns
      exact ⟨rfl, by (repeat' (first | (with_reducible exact Below.refl _ _) | (with_reducible refine below_alloc ?_ _) | (with_reducible refine Below.drew ?_) | (with_reducible refine below_drewN ?_ _) | (with_reducible refine Below.setCell ?_ ?_ _) | (with_reducible assumption) | (with_reducible refine below_of ?_ (by assumption)) | omega | (simp only [World.size_alloc, World.size_setCell, World.size_drew, size_drewN] at *; omega) | (simp; omega)))⟩
    · skip
      cases b3
      · go_wp2_with (go_at_call 82; refine (head_within _ _ _).mono ?_; (first | rw [H1.out] | rw [H2.out] | rw [H3.out] | rw [H4.out] | rw [H5.out] | rw [H6.out] | rw [H7.out]); rintro e w1 ⟨rfl, rfl⟩)
        go_returns
        exact ⟨rfl, by (repeat' (first | (with_reducible exact Below.refl _ _) | (with_reducible refine below_alloc ?_ _) | (with_reducible refine Below.drew ?_) | (with_reducible refine below_drewN ?_ _) | (with_reducible refine Below.setCell ?_ ?_ _) | (with_reducible assumption) | (with_reducible refine below_of ?_ (by assumption)) | omega | (simp only [World.size_alloc, World.size_setCell, World.size_drew, size_drewN] at *; omega) | (simp; omega)))⟩
      · skip
        cases b4
        · go_wp2_with (go_at_call 82; refine (head_within _ _ _).mono ?_; (first | rw [H1.out] | rw [H2.out] | rw [H3.out] | rw [H4.out] | rw [H5.out] | rw [H6.out] | rw [H7.out]); rintro e w1 ⟨rfl, rfl⟩)
          go_returns
          exact ⟨rfl, by (repeat' (first | (with_reducible exact Below.refl _ _) | (with_reducible refine below_alloc ?_ _) | (with_reducible refine Below.drew ?_) | (with_reducible refine below_drewN ?_ _) | (with_reducible refine Below.setCell ?_ ?_ _) | (with_reducible assumption) | (with_reducible refine below_of ?_ (by assumption)) | omega | (simp only [World.size_alloc, World.size_setCell, World.size_drew, size_drewN] at *; omega) | (simp; omega)))⟩
        · skip
          cases b5
          · go_wp2_with (go_at_call 82; refine (head_within _ _ _).mono ?_; (first | rw [H1.out] | rw [H2.out] | rw [H3.out] | rw [H4.out] | rw [H5.out] | rw [H6.out] | rw [H7.out]); rintro e w1 ⟨rfl, rfl⟩)
            go_returns
            exact ⟨rfl, by (repeat' (first | (with_reducible exact Below.refl _ _) | (with_reducible refine below_alloc ?_ _) | (with_reducible refine Below.drew ?_) | (with_reducible refine below_drewN ?_ _) | (with_reducible refine Below.setCell ?_ ?_ _) | (with_reducible assumption) | (with_reducible refine below_of ?_ (by assumption)) | omega | (simp only [World.size_alloc, World.size_setCell, World.size_drew, size_drewN] at *; omega) | (simp; omega)))⟩
          · skip
            have h6 := H6.out
            go_wp2_with (go_at_call 82; refine (head_within _ _ _).mono ?_; (first | rw [H1.out] | rw [H2.out] | rw [H3.out] | rw [H4.out] | rw [H5.out] | rw [H6.out] | rw [H7.out]); rintro e w1 ⟨rfl, rfl⟩)
            cases b6
            · go_quiet (first | (go_at_call 83; first | exact quiet_left (head_pick _ _ _ _) | exact quiet_add_left (head_pick _ _ _ _)) | (go_at_call 82; first | exact quiet_left (head_within _ _ _) | exact quiet_add_left (head_within _ _ _)))
              go_wp2
              go_returns
              exact ⟨rfl, by (repeat' (first | (with_reducible exact Below.refl _ _) | (with_reducible refine below_alloc ?_ _) | (with_reducible refine Below.drew ?_) | (with_reducible refine below_drewN ?_ _) | (with_reducible refine Below.setCell ?_ ?_ _) | (with_reducible assumption) | (with_reducible refine below_of ?_ (by assumption)) | omega | (simp only [World.size_alloc, World.size_setCell, World.size_drew, size_drewN] at *; omega) | (simp; omega)))⟩
            · go_quiet (first | (go_at_call 83; first | exact quiet_left (head_pick _ _ _ _) | exact quiet_add_left (head_pick _ _ _ _)) | (go_at_call 82; first | exact quiet_left (head_within _ _ _) | exact quiet_add_left (head_within _ _ _)))
              clear h6
              go_wp2_with fail
              refine (head_within _ _ _).mono ?_
              rw [H7.out]
              rintro e w1 ⟨rfl, rfl⟩
              cases b7
              · go_wp2
                go_returns
                exact ⟨rfl, by (repeat' (first | (with_reducible exact Below.refl _ _) | (with_reducible refine below_alloc ?_ _) | (with_reducible refine Below.drew ?_) | (with_reducible refine below_drewN ?_ _) | (with_reducible refine Below.setCell ?_ ?_ _) | (with_reducible assumption) | (with_reducible refine below_of ?_ (by assumption)) | omega | (simp only [World.size_alloc, World.size_setCell, World.size_drew, size_drewN] at *; omega) | (simp; omega)))⟩
              · obtain ⟨hw0, hw1⟩ := HW.out rfl
                have hwr : IntKind.i64.wrap (4 * words) = 4 * words := IntWalk.i64_in _ (by omega)
                by_cases hlt : 4 * words < n
                · have hd : decide (4 * words < n) = true := by simpa using hlt
                  go_wp2_with fail
                  go_region_held3 (fun w' => w'.cell? ⟨w.heap.size, 2, none⟩ = some (.int .i64 words) ∧ w'.cell? ⟨w.heap.size, 6, none⟩ = some (.int .i64 kind) ∧ w'.cell? ⟨w.heap.size, 7, none⟩ = some (.bool true)) (go_keep) (first | (go_at_call 49; refine (head_size _ _ _).mono ?_; rw [H8.out]; rintro e w3 ⟨rfl, hb⟩; have hz := hb.size; (try simp only [World.size_alloc, World.size_setCell, World.size_drew, size_drewN] at hz); apply own_step (B := w.heap.size) hb; (focus (repeat (first | (with_reducible assumption) | (with_reducible exact own_new _ _ _) | ((with_reducible apply own_new'); focus (first | omega | (simp; done) | (simp; omega))) | (with_reducible apply own_drewN) | (with_reducible apply own_drew) | (with_reducible apply own_alloc) | (with_reducible apply own_setT) | ((with_reducible apply own_set_otherH); focus (first | (simp; done) | (simp; omega)))))); intro hO0; have hk0 := hO0.2.1; have hl0 := hO0.1; have hf0 := hO0.2.2; (try simp only [List.setIfInBounds_toArray, List.set_cons_zero, List.set_cons_succ] at hO0 hk0)))
                  go_wp2
                  go_returns
                  exact ⟨ret_i (by simp [hlt]), by (repeat' (first | (with_reducible exact Below.refl _ _) | (with_reducible refine below_alloc ?_ _) | (with_reducible refine Below.drew ?_) | (with_reducible refine below_drewN ?_ _) | (with_reducible refine Below.setCell ?_ ?_ _) | (with_reducible assumption) | (with_reducible refine below_of ?_ (by assumption)) | omega | (simp only [World.size_alloc, World.size_setCell, World.size_drew, size_drewN] at *; omega) | (simp; omega)))⟩
                · have hd : decide (4 * words < n) = false := by simpa using hlt
                  go_wp2_with fail
                  go_region_held3 (fun w' => w'.cell? ⟨w.heap.size, 2, none⟩ = some (.int .i64 words) ∧ w'.cell? ⟨w.heap.size, 6, none⟩ = some (.int .i64 kind) ∧ w'.cell? ⟨w.heap.size, 7, none⟩ = some (.bool true)) (go_keep) (first | (go_at_call 49; refine (head_size _ _ _).mono ?_; rw [H8.out]; rintro e w3 ⟨rfl, hb⟩; have hz := hb.size; (try simp only [World.size_alloc, World.size_setCell, World.size_drew, size_drewN] at hz); apply own_step (B := w.heap.size) hb; (focus (repeat (first | (with_reducible assumption) | (with_reducible exact own_new _ _ _) | ((with_reducible apply own_new'); focus (first | omega | (simp; done) | (simp; omega))) | (with_reducible apply own_drewN) | (with_reducible apply own_drew) | (with_reducible apply own_alloc) | (with_reducible apply own_setT) | ((with_reducible apply own_set_otherH); focus (first | (simp; done) | (simp; omega)))))); intro hO0; have hk0 := hO0.2.1; have hl0 := hO0.1; have hf0 := hO0.2.2; (try simp only [List.setIfInBounds_toArray, List.set_cons_zero, List.set_cons_succ] at hO0 hk0)))
                  go_wp2
                  go_returns
                  exact ⟨ret_i (by simp [hlt]), by (repeat' (first | (with_reducible exact Below.refl _ _) | (with_reducible refine below_alloc ?_ _) | (with_reducible refine Below.drew ?_) | (with_reducible refine below_drewN ?_ _) | (with_reducible refine Below.setCell ?_ ?_ _) | (with_reducible assumption) | (with_reducible refine below_of ?_ (by assumption)) | omega | (simp only [World.size_alloc, World.size_setCell, World.size_drew, size_drewN] at *; omega) | (simp; omega)))⟩
set_option maxRecDepth 100000 in
set_option maxHeartbeats 4000000 in
theorem head_check_short (src dst words ccval cover sum kind seq : Int) (w : World) (hk : Head.known kind = true) (hbr : Head.brief kind = true) :
    Calls Try.prog 41 #[(⟨src, dst, words, ccval, cover, sum, kind, false, seq⟩ : Head.H).v] w fun e w' => e = .returned (.int .i64 (Head.check ⟨src, dst, words, ccval, cover, sum, kind, false, seq⟩)) ∧ Below w.heap.size w w' := by
  have hcheck : Head.check ⟨src, dst, words, ccval, cover, sum, kind, false, seq⟩ = if Head.wi src 65535 = false then 3 else if Head.wi dst 65535 = false then 3 else if Head.wi sum 65535 = false then 3 else if Head.wi ccval 15 = false then 3 else if Head.wi cover 15 = false then 3
      else if Head.wi seq 16777215 = false then 3 else if Head.wi words 255 = false then 3 else if 4 * words < Head.size kind false then 1 else 0 := by
    unfold Head.check
    simp only [hk, hbr, Bool.true_eq_false, Bool.false_eq_true, false_and, and_false, if_false, Head.most, if_true]
    cases Head.wi src 65535 <;> cases Head.wi dst 65535 <;> cases Head.wi sum 65535 <;> cases Head.wi ccval 15 <;> cases Head.wi cover 15 <;> simp
    cases Head.wi words 255 <;> simp
  rw [hcheck]
  clear hcheck
  have HK := Lib.hid hk
  have HB := Lib.hid hbr
  clear hbr
  have hw : Head.wi words 255 = true → 0 ≤ words ∧ words ≤ 255 := by unfold Head.wi; simp only [decide_eq_true_eq]; exact id
  have HW := Lib.hid hw
  clear hk hw
  generalize hw1 : Head.wi src 65535 = b1
  generalize hw2 : Head.wi dst 65535 = b2
  generalize hw3 : Head.wi sum 65535 = b3
  generalize hw4 : Head.wi ccval 15 = b4
  generalize hw5 : Head.wi cover 15 = b5
  generalize hw6 : Head.wi seq 16777215 = b6
  generalize hw7 : Head.wi words 255 = b7 at HW
  generalize hsz : Head.size kind false = n
  have H1 := Lib.hid hw1
  have H2 := Lib.hid hw2
  have H3 := Lib.hid hw3
  have H4 := Lib.hid hw4
  have H5 := Lib.hid hw5
  have H6 := Lib.hid hw6
  have H7 := Lib.hid hw7
  have H8 := Lib.hid hsz
  clear hw1 hw2 hw3 hw4 hw5 hw6 hw7 hsz
  go_enter Try.func41, Try.ntmps41
  go_wp2_with fail
  refine (head_of _ _).mono ?_
  rw [HK.out, HB.out]
  rintro e w1 ⟨rfl, hb⟩; have hz := hb.size; (try simp only [World.size_alloc, World.size_setCell, World.size_drew, size_drewN] at hz); apply own_step (B := w.heap.size) hb; (focus (repeat (first | (with_reducible assumption) | (with_reducible exact own_new _ _ _) | ((with_reducible apply own_new'); focus (first | omega | (simp; done) | (simp; omega))) | (with_reducible apply own_drewN) | (with_reducible apply own_drew) | (with_reducible apply own_alloc) | (with_reducible apply own_setT) | ((with_reducible apply own_set_otherH); focus (first | (simp; done) | (simp; omega)))))); intro hO0; have hk0 := hO0.2.1; have hl0 := hO0.1; have hf0 := hO0.2.2; (try simp only [List.setIfInBounds_toArray, List.set_cons_zero, List.set_cons_succ] at hO0 hk0)
  cases b1
  · go_wp2_with (go_at_call 82; refine (head_within _ _ _).mono ?_; (first | rw [H1.out] | rw [H2.out] | rw [H3.out] | rw [H4.out] | rw [H5.out] | rw [H6.out] | rw [H7.out]); rintro e w1 ⟨rfl, rfl⟩)
    go_returns
    exact ⟨rfl, by (repeat' (first | (with_reducible exact Below.refl _ _) | (with_reducible refine below_alloc ?_ _) | (with_reducible refine Below.drew ?_) | (with_reducible refine below_drewN ?_ _) | (with_reducible refine Below.setCell ?_ ?_ _) | (with_reducible assumption) | (with_reducible refine below_of ?_ (by assumption)) | omega | (simp only [World.size_alloc, World.size_setCell, World.size_drew, size_drewN] at *; omega) | (simp; omega)))⟩
  · skip
    cases b2
    · go_wp2_with (go_at_call 82; refine (head_within _ _ _).mono ?_; (first | rw [H1.out] | rw [H2.out] | rw [H3.out] | rw [H4.out] | rw [H5.out] | rw [H6.out] | rw [H7.out]); rintro e w1 ⟨rfl, rfl⟩)
      go_returns
      exact ⟨rfl, by (repeat' (first | (with_reducible exact Below.refl _ _) | (with_reducible refine below_alloc ?_ _) | (with_reducible refine Below.drew ?_) | (with_reducible refine below_drewN ?_ _) | (with_reducible refine Below.setCell ?_ ?_ _) | (with_reducible assumption) | (with_reducible refine below_of ?_ (by assumption)) | omega | (simp only [World.size_alloc, World.size_setCell, World.size_drew, size_drewN] at *; omega) | (simp; omega)))⟩
    · skip
      cases b3
      · go_wp2_with (go_at_call 82; refine (head_within _ _ _).mono ?_; (first | rw [H1.out] | rw [H2.out] | rw [H3.out] | rw [H4.out] | rw [H5.out] | rw [H6.out] | rw [H7.out]); rintro e w1 ⟨rfl, rfl⟩)
        go_returns
        exact ⟨rfl, by (repeat' (first | (with_reducible exact Below.refl _ _) | (with_reducible refine below_alloc ?_ _) | (with_reducible refine Below.drew ?_) | (with_reducible refine below_drewN ?_ _) | (with_reducible refine Below.setCell ?_ ?_ _) | (with_reducible assumption) | (with_reducible refine below_of ?_ (by assumption)) | omega | (simp only [World.size_alloc, World.size_setCell, World.size_drew, size_drewN] at *; omega) | (simp; omega)))⟩
      · skip
        cases b4
        · go_wp2_with (go_at_call 82; refine (head_within _ _ _).mono ?_; (first | rw [H1.out] | rw [H2.out] | rw [H3.out] | rw [H4.out] | rw [H5.out] | rw [H6.out] | rw [H7.out]); rintro e w1 ⟨rfl, rfl⟩)
          go_returns
          exact ⟨rfl, by (repeat' (first | (with_reducible exact Below.refl _ _) | (with_reducible refine below_alloc ?_ _) | (with_reducible refine Below.drew ?_) | (with_reducible refine below_drewN ?_ _) | (with_reducible refine Below.setCell ?_ ?_ _) | (with_reducible assumption) | (with_reducible refine below_of ?_ (by assumption)) | omega | (simp only [World.size_alloc, World.size_setCell, World.size_drew, size_drewN] at *; omega) | (simp; omega)))⟩
        · skip
          cases b5
          · go_wp2_with (go_at_call 82; refine (head_within _ _ _).mono ?_; (first | rw [H1.out] | rw [H2.out] | rw [H3.out] | rw [H4.out] | rw [H5.out] | rw [H6.out] | rw [H7.out]); rintro e w1 ⟨rfl, rfl⟩)
            go_returns
            exact ⟨rfl, by (repeat' (first | (with_reducible exact Below.refl _ _) | (with_reducible refine below_alloc ?_ _) | (with_reducible refine Below.drew ?_) | (with_reducible refine below_drewN ?_ _) | (with_reducible refine Below.setCell ?_ ?_ _) | (with_reducible assumption) | (with_reducible refine below_of ?_ (by assumption)) | omega | (simp only [World.size_alloc, World.size_setCell, World.size_drew, size_drewN] at *; omega) | (simp; omega)))⟩
          · skip
            have h6 := H6.out
            go_wp2_with (go_at_call 82; refine (head_within _ _ _).mono ?_; (first | rw [H1.out] | rw [H2.out] | rw [H3.out] | rw [H4.out] | rw [H5.out] | rw [H6.out] | rw [H7.out]); rintro e w1 ⟨rfl, rfl⟩)
            cases b6
            · go_quiet (first | (go_at_call 83; first | exact quiet_left (head_pick _ _ _ _) | exact quiet_add_left (head_pick _ _ _ _)) | (go_at_call 82; first | exact quiet_left (head_within _ _ _) | exact quiet_add_left (head_within _ _ _)))
              go_wp2
              go_returns
              exact ⟨rfl, by (repeat' (first | (with_reducible exact Below.refl _ _) | (with_reducible refine below_alloc ?_ _) | (with_reducible refine Below.drew ?_) | (with_reducible refine below_drewN ?_ _) | (with_reducible refine Below.setCell ?_ ?_ _) | (with_reducible assumption) | (with_reducible refine below_of ?_ (by assumption)) | omega | (simp only [World.size_alloc, World.size_setCell, World.size_drew, size_drewN] at *; omega) | (simp; omega)))⟩
            · go_quiet (first | (go_at_call 83; first | exact quiet_left (head_pick _ _ _ _) | exact quiet_add_left (head_pick _ _ _ _)) | (go_at_call 82; first | exact quiet_left (head_within _ _ _) | exact quiet_add_left (head_within _ _ _)))
              clear h6
              go_wp2_with fail
              refine (head_within _ _ _).mono ?_
              rw [H7.out]
              rintro e w1 ⟨rfl, rfl⟩
              cases b7
              · go_wp2
                go_returns
                exact ⟨rfl, by (repeat' (first | (with_reducible exact Below.refl _ _) | (with_reducible refine below_alloc ?_ _) | (with_reducible refine Below.drew ?_) | (with_reducible refine below_drewN ?_ _) | (with_reducible refine Below.setCell ?_ ?_ _) | (with_reducible assumption) | (with_reducible refine below_of ?_ (by assumption)) | omega | (simp only [World.size_alloc, World.size_setCell, World.size_drew, size_drewN] at *; omega) | (simp; omega)))⟩
              · obtain ⟨hw0, hw1⟩ := HW.out rfl
                have hwr : IntKind.i64.wrap (4 * words) = 4 * words := IntWalk.i64_in _ (by omega)
                by_cases hlt : 4 * words < n
                · have hd : decide (4 * words < n) = true := by simpa using hlt
                  go_wp2_with fail
                  go_region_held3 (fun w' => w'.cell? ⟨w.heap.size, 2, none⟩ = some (.int .i64 words) ∧ w'.cell? ⟨w.heap.size, 6, none⟩ = some (.int .i64 kind) ∧ w'.cell? ⟨w.heap.size, 7, none⟩ = some (.bool false)) (go_keep) (first | (go_at_call 49; refine (head_size _ _ _).mono ?_; rw [H8.out]; rintro e w3 ⟨rfl, hb⟩; have hz := hb.size; (try simp only [World.size_alloc, World.size_setCell, World.size_drew, size_drewN] at hz); apply own_step (B := w.heap.size) hb; (focus (repeat (first | (with_reducible assumption) | (with_reducible exact own_new _ _ _) | ((with_reducible apply own_new'); focus (first | omega | (simp; done) | (simp; omega))) | (with_reducible apply own_drewN) | (with_reducible apply own_drew) | (with_reducible apply own_alloc) | (with_reducible apply own_setT) | ((with_reducible apply own_set_otherH); focus (first | (simp; done) | (simp; omega)))))); intro hO0; have hk0 := hO0.2.1; have hl0 := hO0.1; have hf0 := hO0.2.2; (try simp only [List.setIfInBounds_toArray, List.set_cons_zero, List.set_cons_succ] at hO0 hk0)))
                  go_wp2
                  go_returns
                  exact ⟨ret_i (by simp [hlt]), by (repeat' (first | (with_reducible exact Below.refl _ _) | (with_reducible refine below_alloc ?_ _) | (with_reducible refine Below.drew ?_) | (with_reducible refine below_drewN ?_ _) | (with_reducible refine Below.setCell ?_ ?_ _) | (with_reducible assumption) | (with_reducible refine below_of ?_ (by assumption)) | omega | (simp only [World.size_alloc, World.size_setCell, World.size_drew, size_drewN] at *; omega) | (simp; omega)))⟩
                · have hd : decide (4 * words < n) = false := by simpa using hlt
                  go_wp2_with fail
                  go_region_held3 (fun w' => w'.cell? ⟨w.heap.size, 2, none⟩ = some (.int .i64 words) ∧ w'.cell? ⟨w.heap.size, 6, none⟩ = some (.int .i64 kind) ∧ w'.cell? ⟨w.heap.size, 7, none⟩ = some (.bool false)) (go_keep) (first | (go_at_call 49; refine (head_size _ _ _).mono ?_; rw [H8.out]; rintro e w3 ⟨rfl, hb⟩; have hz := hb.size; (try simp only [World.size_alloc, World.size_setCell, World.size_drew, size_drewN] at hz); apply own_step (B := w.heap.size) hb; (focus (repeat (first | (with_reducible assumption) | (with_reducible exact own_new _ _ _) | ((with_reducible apply own_new'); focus (first | omega | (simp; done) | (simp; omega))) | (with_reducible apply own_drewN) | (with_reducible apply own_drew) | (with_reducible apply own_alloc) | (with_reducible apply own_setT) | ((with_reducible apply own_set_otherH); focus (first | (simp; done) | (simp; omega)))))); intro hO0; have hk0 := hO0.2.1; have hl0 := hO0.1; have hf0 := hO0.2.2; (try simp only [List.setIfInBounds_toArray, List.set_cons_zero, List.set_cons_succ] at hO0 hk0)))
                  go_wp2
                  go_returns
                  exact ⟨ret_i (by simp [hlt]), by (repeat' (first | (with_reducible exact Below.refl _ _) | (with_reducible refine below_alloc ?_ _) | (with_reducible refine Below.drew ?_) | (with_reducible refine below_drewN ?_ _) | (with_reducible refine Below.setCell ?_ ?_ _) | (with_reducible assumption) | (with_reducible refine below_of ?_ (by assumption)) | omega | (simp only [World.size_alloc, World.size_setCell, World.size_drew, size_drewN] at *; omega) | (simp; omega)))⟩
set_option maxRecDepth 100000 in
set_option maxHeartbeats 1000000 in
theorem head_check (h : Head.H) (w : World) : Calls Try.prog 41 #[h.v] w fun e w' => e = .returned (.int .i64 (Head.check h)) ∧ Below w.heap.size w w' := by
  obtain ⟨src, dst, words, ccval, cover, sum, kind, long, seq⟩ := h
  by_cases hk : Head.known kind = true
  · cases long
    · by_cases hbr : Head.brief kind = true
      · exact head_check_short src dst words ccval cover sum kind seq w hk hbr
      · rw [Bool.not_eq_true] at hbr
        have hcheck : Head.check ⟨src, dst, words, ccval, cover, sum, kind, false, seq⟩ = 4 := by simp [Head.check, hk, hbr]
        rw [hcheck]
        have HK := Lib.hid hk
        have HB := Lib.hid hbr
        clear hk hbr hcheck
        go_enter Try.func41, Try.ntmps41
        go_wp2_with fail
        refine (head_of _ _).mono ?_
        rw [HK.out, HB.out]
        rintro e w1 ⟨rfl, hb⟩; have hz := hb.size; (try simp only [World.size_alloc, World.size_setCell, World.size_drew, size_drewN] at hz); apply own_step (B := w.heap.size) hb; (focus (repeat (first | (with_reducible assumption) | (with_reducible exact own_new _ _ _) | ((with_reducible apply own_new'); focus (first | omega | (simp; done) | (simp; omega))) | (with_reducible apply own_drewN) | (with_reducible apply own_drew) | (with_reducible apply own_alloc) | (with_reducible apply own_setT) | ((with_reducible apply own_set_otherH); focus (first | (simp; done) | (simp; omega)))))); intro hO0; have hk0 := hO0.2.1; have hl0 := hO0.1; have hf0 := hO0.2.2; (try simp only [List.setIfInBounds_toArray, List.set_cons_zero, List.set_cons_succ] at hO0 hk0)
        go_wp2
        go_returns
        exact ⟨rfl, by (repeat' (first | (with_reducible exact Below.refl _ _) | (with_reducible refine below_alloc ?_ _) | (with_reducible refine Below.drew ?_) | (with_reducible refine below_drewN ?_ _) | (with_reducible refine Below.setCell ?_ ?_ _) | (with_reducible assumption) | (with_reducible refine below_of ?_ (by assumption)) | omega | (simp only [World.size_alloc, World.size_setCell, World.size_drew, size_drewN] at *; omega) | (simp; omega)))⟩
    · exact head_check_long src dst words ccval cover sum kind seq w hk
  · rw [Bool.not_eq_true] at hk
    have hcheck : Head.check ⟨src, dst, words, ccval, cover, sum, kind, long, seq⟩ = 7 := by simp [Head.check, hk]
    rw [hcheck]
    have HK := Lib.hid hk
    clear hk hcheck
    go_enter Try.func41, Try.ntmps41
    go_wp2_with fail
    refine (head_of _ _).mono ?_
    rw [HK.out]
    rintro e w1 ⟨rfl, hb⟩; have hz := hb.size; (try simp only [World.size_alloc, World.size_setCell, World.size_drew, size_drewN] at hz); apply own_step (B := w.heap.size) hb; (focus (repeat (first | (with_reducible assumption) | (with_reducible exact own_new _ _ _) | ((with_reducible apply own_new'); focus (first | omega | (simp; done) | (simp; omega))) | (with_reducible apply own_drewN) | (with_reducible apply own_drew) | (with_reducible apply own_alloc) | (with_reducible apply own_setT) | ((with_reducible apply own_set_otherH); focus (first | (simp; done) | (simp; omega)))))); intro hO0; have hk0 := hO0.2.1; have hl0 := hO0.1; have hf0 := hO0.2.2; (try simp only [List.setIfInBounds_toArray, List.set_cons_zero, List.set_cons_succ] at hO0 hk0)
    go_wp2
    go_returns
    exact ⟨rfl, by (repeat' (first | (with_reducible exact Below.refl _ _) | (with_reducible refine below_alloc ?_ _) | (with_reducible refine Below.drew ?_) | (with_reducible refine below_drewN ?_ _) | (with_reducible refine Below.setCell ?_ ?_ _) | (with_reducible assumption) | (with_reducible refine below_of ?_ (by assumption)) | omega | (simp only [World.size_alloc, World.size_setCell, World.size_drew, size_drewN] at *; omega) | (simp; omega)))⟩
end Go.Proofs.Ytnhfhnphmjhamaa
