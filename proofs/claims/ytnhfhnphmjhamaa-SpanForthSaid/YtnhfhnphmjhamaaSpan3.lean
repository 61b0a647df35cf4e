/- Never back: the walk of the law SpanForth. No conditions. -/
import Derived.Test.YtnhfhnphmjhamaaSpan2
import Derived.Test.YtnhfhnphmjhamaaPlSpan3
import Derived.Test.YtnhfhnphmjhamaaRows2
import Derived.Deep.RegionHeld3
import Derived.StillTailTactics
namespace Go.Proofs.Ytnhfhnphmjhamaa
set_option linter.unusedVariables false
set_option linter.unusedSimpArgs false
open Go.RowKit Go.ChangeShapes Go.WideShapes

set_option maxRecDepth 100000 in
set_option maxHeartbeats 1000000 in
theorem spanForth_any (iss isr : Int) (v : Value) (len : Nat) (f : Nat → Nat → Value) (mine : Nat → Bool) (kd sq ak : Nat → Int) (w : World) (hlm : len ≤ maxLen) (hv : IsRows w 4 v len f)
    (hf : ∀ i, i < len → f i 0 = .bool (mine i) ∧ f i 1 = .int .i64 (kd i) ∧ f i 2 = .int .i64 (sq i) ∧ f i 3 = .int .i64 (ak i)) :
    Calls Try.prog 5 #[.int .i64 iss, .int .i64 isr, v] w fun e w' => e = .returned (.bool true) ∧ Below w.heap.size w w' := by
  unfold maxLen at hlm
  have hv' : ∃ oa cap, v = .slice oa len cap := by
    rcases hv with ⟨h, h0⟩ | ⟨a, cap, h, _⟩
    · exact ⟨none, 0, by rw [h, h0]⟩
    · exact ⟨some a, cap, h⟩
  have HV := Lib.hid hv
  clear hv
  have HF := Lib.hid hf
  clear hf
  obtain ⟨oa, cap, rfl⟩ := hv'
  go_enter Try.func5, Try.ntmps5
  go_wp2_with fail
  refine (span_works _).mono ?_
  rintro e w1 ⟨rfl, hb⟩; have hz1 := hb.size
  by_cases h200 : 200 < len
  · go_wp2
    go_returns
    exact ⟨rfl, by (repeat' (first | (with_reducible exact Below.refl _ _) | (with_reducible refine below_alloc ?_ _) | (with_reducible refine Below.drew ?_) | (with_reducible refine below_drewN ?_ _) | (with_reducible refine Below.setCell ?_ ?_ _) | (with_reducible assumption) | (with_reducible refine below_of ?_ (by assumption)) | omega | (simp only [World.size_alloc, World.size_setCell, World.size_drew] at *; omega) | (simp; omega)))⟩
  · go_wp2_with fail
    refine (span_begin _ _ _ _ _).mono ?_
    have HI := Lib.hid (Span.inv_begin iss isr)
    generalize Span.begin iss iss isr isr = m0 at *
    rintro e w2 ⟨rfl, hb⟩; have hz2 := hb.size
    go_wp2_with fail
    go_loopw [8] (fun i wr => ∃ (k : Nat) (m : Span.Marks), k ≤ len ∧ i = .int .i64 k ∧ Span.Inv k m ∧ Own wr w2.heap.size #[.int .i64 m.iss, .int .i64 m.isr, .int .i64 m.gss, .int .i64 m.gsr, .int .i64 m.gar] ∧ Below w.heap.size w wr)
      (fun i _ => len - (intOf i).toNat)
    case atStart => exact ⟨0, m0, Nat.zero_le _, rfl, HI.out, own_new' _ _ _ rfl, by (repeat' (first | (with_reducible exact Below.refl _ _) | (with_reducible refine below_alloc ?_ _) | (with_reducible refine Below.drew ?_) | (with_reducible refine below_drewN ?_ _) | (with_reducible refine Below.setCell ?_ ?_ _) | (with_reducible assumption) | (with_reducible refine below_of ?_ (by assumption)) | omega | (simp only [World.size_alloc, World.size_setCell, World.size_drew] at *; omega) | (simp; omega)))⟩
    case round =>
      obtain ⟨k, m, hk, rfl, hI, hO, hbl⟩ := hrel
      have HI := Lib.hid hI
      clear hI
      by_cases hlt : k < len
      · have hk0 := hO.2.1
        have hl0 := hO.1
        have hf0 := hO.2.2
        rcases HV.out.below hbl with ⟨_, h0⟩ | ⟨a, cap', he, hc1, hc2, hrow⟩
        · omega
        injection he with he1 he2 he3
        subst he1 he3
        clear he2
        obtain ⟨hsp, hab, hcell⟩ := hrow k hlt
        obtain ⟨hm0, hm1, hm2, hm3⟩ := HF.out k hlt
        obtain ⟨b, off, sp⟩ := a
        simp only at hsp
        subst hsp
        have c0 := hcell 0 (by omega)
        have c1 := hcell 1 (by omega)
        have c2 := hcell 2 (by omega)
        have c3 := hcell 3 (by omega)
        simp only [hm0, hm1, hm2, hm3, Nat.add_zero] at c0 c1 c2 c3
        clear hrow hcell hm0 hm1 hm2 hm3
        have hlt' : (k : Int) < (len : Int) := by omega
        have hge' : (0 : Int) ≤ (k : Int) := by omega
        generalize mine k = mi at *
        cases mi
        · go_wp2_with fail
          go_region_held3 (fun w' => w'.cell? ⟨w2.heap.size, 0, none⟩ = some (.int .i64 m.iss) ∧ w'.cell? ⟨w2.heap.size, 1, none⟩ = some (.int .i64 m.isr) ∧ w'.cell? ⟨w2.heap.size, 2, none⟩ = some (.int .i64 m.gss) ∧ w'.cell? ⟨w2.heap.size, 3, none⟩ = some (.int .i64 m.gsr) ∧ w'.cell? ⟨w2.heap.size, 4, none⟩ = some (.int .i64 m.gar) ∧ w'.cell? ⟨b, off + k * 4 + 1, none⟩ = some (.int .i64 (kd k)) ∧ w'.cell? ⟨b, off + k * 4 + 2, none⟩ = some (.int .i64 (sq k)) ∧ w'.cell? ⟨b, off + k * 4 + 3, none⟩ = some (.int .i64 (ak k))) (go_keep) (first | (go_at_call 23; refine (span_valid m _ _ _ _).mono ?_; rintro e w3 ⟨rfl, hb⟩; have hz := hb.size; (try simp only [World.size_alloc, World.size_setCell, World.size_drew] at hz); (first | (have c1 := old_cell hb c1) | (have c1 := old_cell hb (alloc_cell c1 _)) | (have c1 := old_cell hb (alloc_cell (alloc_cell c1 _) _)) | (have c1 := old_cell hb (alloc_cell (alloc_cell (alloc_cell c1 _) _) _))); (first | (have c2 := old_cell hb c2) | (have c2 := old_cell hb (alloc_cell c2 _)) | (have c2 := old_cell hb (alloc_cell (alloc_cell c2 _) _)) | (have c2 := old_cell hb (alloc_cell (alloc_cell (alloc_cell c2 _) _) _))); (first | (have c3 := old_cell hb c3) | (have c3 := old_cell hb (alloc_cell c3 _)) | (have c3 := old_cell hb (alloc_cell (alloc_cell c3 _) _)) | (have c3 := old_cell hb (alloc_cell (alloc_cell (alloc_cell c3 _) _) _))); apply own_step (B := w2.heap.size) hb; (focus (repeat (first | (with_reducible assumption) | (with_reducible exact own_new _ _ _) | ((with_reducible apply own_new'); focus (first | omega | (simp; done) | (simp; omega))) | (with_reducible apply own_drewN) | (with_reducible apply own_drew) | (with_reducible apply own_alloc) | (with_reducible apply own_setT) | ((with_reducible apply own_set_otherH); focus (first | (simp; done) | (simp; omega)))))); intro hO0; have hk0 := hO0.2.1; have hl0 := hO0.1; have hf0 := hO0.2.2; (try simp only [List.setIfInBounds_toArray, List.set_cons_zero, List.set_cons_succ] at hO0 hk0); apply own_step (B := wr.heap.size) hb; (focus (repeat (first | (with_reducible assumption) | (with_reducible exact own_new _ _ _) | ((with_reducible apply own_new'); focus (first | omega | (simp; done) | (simp; omega))) | (with_reducible apply own_drewN) | (with_reducible apply own_drew) | (with_reducible apply own_alloc) | (with_reducible apply own_setT) | ((with_reducible apply own_set_otherH); focus (first | (simp; done) | (simp; omega)))))); intro hO1; have hk1 := hO1.2.1; have hl1 := hO1.1; have hf1 := hO1.2.2; (try simp only [List.setIfInBounds_toArray, List.set_cons_zero, List.set_cons_succ] at hO1 hk1)))
          by_cases hval : Span.valid m (kd k) (sq k) (ak k) = 0
          · have hval' : (Span.valid m (kd k) (sq k) (ak k) == 0) = true := by simpa using hval
            have HK := Lib.hid (Span.keeps_came HI.out (by omega) _ _ _ hval)
            clear hval
            generalize Span.valid m (kd k) (sq k) (ak k) = va at *
            go_wp2_with fail
            (refine wp_region_still_tail 16 (by kernel_rfl) (by kernel_rfl) ?_; simp only [List.take_succ_cons, List.take_zero, List.drop_succ_cons, List.drop_zero]; change wpStill _ _ (World.drew _) (fun a' => wpList _ _ _ _ a' (World.drew _)) _ _; (repeat still_step); refine wpStill_nil ?_)
            go_wp2_with fail
            refine (span_came m _ _ _ _).mono ?_
            generalize Span.came m (kd k) (sq k) (ak k) = m' at *
            rintro e w4 ⟨rfl, hb⟩; have hz := hb.size; (try simp only [World.size_alloc, World.size_setCell, World.size_drew] at hz); apply own_step (B := w2.heap.size) hb; (focus (repeat (first | (with_reducible assumption) | (with_reducible exact own_new _ _ _) | ((with_reducible apply own_new'); focus (first | omega | (simp; done) | (simp; omega))) | (with_reducible apply own_drewN) | (with_reducible apply own_drew) | (with_reducible apply own_alloc) | (with_reducible apply own_setT) | ((with_reducible apply own_set_otherH); focus (first | (simp; done) | (simp; omega)))))); intro hO0; have hk0 := hO0.2.1; have hl0 := hO0.1; have hf0 := hO0.2.2; (try simp only [List.setIfInBounds_toArray, List.set_cons_zero, List.set_cons_succ] at hO0 hk0); apply own_step (B := wr.heap.size) hb; (focus (repeat (first | (with_reducible assumption) | (with_reducible exact own_new _ _ _) | ((with_reducible apply own_new'); focus (first | omega | (simp; done) | (simp; omega))) | (with_reducible apply own_drewN) | (with_reducible apply own_drew) | (with_reducible apply own_alloc) | (with_reducible apply own_setT) | ((with_reducible apply own_set_otherH); focus (first | (simp; done) | (simp; omega)))))); intro hO1; have hk1 := hO1.2.1; have hl1 := hO1.1; have hf1 := hO1.2.2; (try simp only [List.setIfInBounds_toArray, List.set_cons_zero, List.set_cons_succ] at hO1 hk1)
            obtain ⟨HI', ⟨q1, q2, q3, q4, q5⟩⟩ := HK.out
            have HI' := Lib.hid HI'
            clear HK
            go_wp2_with (first | (go_at_call 26; refine (ref02_less _ _ _).mono ?_; (first | rw [q1] | rw [q2] | rw [q3]); rintro e w1 ⟨rfl, rfl⟩))
            go_roundw
            case rel => go_light; exact ⟨k + 1, m', by omega, by go_num, HI'.out, by ((with_reducible apply own_conv); (focus (repeat (first | (with_reducible assumption) | (with_reducible exact own_new _ _ _) | ((with_reducible apply own_new'); focus (first | omega | (simp; done) | (simp; omega))) | (with_reducible apply own_drewN) | (with_reducible apply own_drew) | (with_reducible apply own_alloc) | (with_reducible apply own_setT) | ((with_reducible apply own_set_otherH); focus (first | (simp; done) | (simp; omega)))))); simp [q4, q5]), by (repeat' (first | (with_reducible exact Below.refl _ _) | (with_reducible refine below_alloc ?_ _) | (with_reducible refine Below.drew ?_) | (with_reducible refine below_drewN ?_ _) | (with_reducible refine Below.setCell ?_ ?_ _) | (with_reducible assumption) | (with_reducible refine below_of ?_ (by assumption)) | omega | (simp only [World.size_alloc, World.size_setCell, World.size_drew] at *; omega) | (simp; omega)))⟩
            case measure => go_light; simp [intOf]; omega
          · have hval' : (Span.valid m (kd k) (sq k) (ak k) == 0) = false := by simpa using hval
            have HK := Lib.hid (Span.keeps_same HI.out (by omega))
            clear hval
            generalize Span.valid m (kd k) (sq k) (ak k) = va at *
            obtain ⟨HI', ⟨q1, q2, q3, q4, q5⟩⟩ := HK.out
            have HI' := Lib.hid HI'
            clear HK
            go_wp2_with (first | (go_at_call 26; refine (ref02_less _ _ _).mono ?_; (first | rw [q1] | rw [q2] | rw [q3]); rintro e w1 ⟨rfl, rfl⟩))
            go_roundw
            case rel => go_light; exact ⟨k + 1, m, by omega, by go_num, HI'.out, by ((with_reducible apply own_conv); (focus (repeat (first | (with_reducible assumption) | (with_reducible exact own_new _ _ _) | ((with_reducible apply own_new'); focus (first | omega | (simp; done) | (simp; omega))) | (with_reducible apply own_drewN) | (with_reducible apply own_drew) | (with_reducible apply own_alloc) | (with_reducible apply own_setT) | ((with_reducible apply own_set_otherH); focus (first | (simp; done) | (simp; omega)))))); simp [q4, q5]), by (repeat' (first | (with_reducible exact Below.refl _ _) | (with_reducible refine below_alloc ?_ _) | (with_reducible refine Below.drew ?_) | (with_reducible refine below_drewN ?_ _) | (with_reducible refine Below.setCell ?_ ?_ _) | (with_reducible assumption) | (with_reducible refine below_of ?_ (by assumption)) | omega | (simp only [World.size_alloc, World.size_setCell, World.size_drew] at *; omega) | (simp; omega)))⟩
            case measure => go_light; simp [intOf]; omega
        · go_wp2_with fail
          refine (span_sent m _).mono ?_
          have HK := Lib.hid (Span.keeps_sent HI.out (by omega))
          generalize Span.sent m = m' at *
          rintro e w3 ⟨rfl, hb⟩; have hz := hb.size; (try simp only [World.size_alloc, World.size_setCell, World.size_drew] at hz); apply own_step (B := w2.heap.size) hb; (focus (repeat (first | (with_reducible assumption) | (with_reducible exact own_new _ _ _) | ((with_reducible apply own_new'); focus (first | omega | (simp; done) | (simp; omega))) | (with_reducible apply own_drewN) | (with_reducible apply own_drew) | (with_reducible apply own_alloc) | (with_reducible apply own_setT) | ((with_reducible apply own_set_otherH); focus (first | (simp; done) | (simp; omega)))))); intro hO0; have hk0 := hO0.2.1; have hl0 := hO0.1; have hf0 := hO0.2.2; (try simp only [List.setIfInBounds_toArray, List.set_cons_zero, List.set_cons_succ] at hO0 hk0); apply own_step (B := wr.heap.size) hb; (focus (repeat (first | (with_reducible assumption) | (with_reducible exact own_new _ _ _) | ((with_reducible apply own_new'); focus (first | omega | (simp; done) | (simp; omega))) | (with_reducible apply own_drewN) | (with_reducible apply own_drew) | (with_reducible apply own_alloc) | (with_reducible apply own_setT) | ((with_reducible apply own_set_otherH); focus (first | (simp; done) | (simp; omega)))))); intro hO1; have hk1 := hO1.2.1; have hl1 := hO1.1; have hf1 := hO1.2.2; (try simp only [List.setIfInBounds_toArray, List.set_cons_zero, List.set_cons_succ] at hO1 hk1)
          obtain ⟨HI', ⟨q1, q2, q3, q4, q5⟩⟩ := HK.out
          have HI' := Lib.hid HI'
          clear HK
          go_wp2_with (first | (go_at_call 26; refine (ref02_less _ _ _).mono ?_; (first | rw [q1] | rw [q2] | rw [q3]); rintro e w1 ⟨rfl, rfl⟩))
          go_roundw
          case rel => go_light; exact ⟨k + 1, m', by omega, by go_num, HI'.out, by ((with_reducible apply own_conv); (focus (repeat (first | (with_reducible assumption) | (with_reducible exact own_new _ _ _) | ((with_reducible apply own_new'); focus (first | omega | (simp; done) | (simp; omega))) | (with_reducible apply own_drewN) | (with_reducible apply own_drew) | (with_reducible apply own_alloc) | (with_reducible apply own_setT) | ((with_reducible apply own_set_otherH); focus (first | (simp; done) | (simp; omega)))))); simp [q4, q5]), by (repeat' (first | (with_reducible exact Below.refl _ _) | (with_reducible refine below_alloc ?_ _) | (with_reducible refine Below.drew ?_) | (with_reducible refine below_drewN ?_ _) | (with_reducible refine Below.setCell ?_ ?_ _) | (with_reducible assumption) | (with_reducible refine below_of ?_ (by assumption)) | omega | (simp only [World.size_alloc, World.size_setCell, World.size_drew] at *; omega) | (simp; omega)))⟩
          case measure => go_light; simp [intOf]; omega
      · go_wp2
        go_returns
        exact ⟨rfl, hbl⟩
end Go.Proofs.Ytnhfhnphmjhamaa
