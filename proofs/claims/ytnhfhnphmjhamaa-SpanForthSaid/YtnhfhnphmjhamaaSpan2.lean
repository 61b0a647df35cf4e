/- Which numbers of packets are valid: contracts of package span, on. No conditions. -/
import Derived.Test.YtnhfhnphmjhamaaSpan
import Derived.Test.YtnhfhnphmjhamaaPlSpan2
namespace Go.Proofs.Ytnhfhnphmjhamaa
set_option linter.unusedVariables false
set_option linter.unusedSimpArgs false
open Go.RowKit Go.ChangeShapes Go.WideShapes

theorem span_valid (m : Span.Marks) (k s a : Int) (w : World) : Calls Try.prog 23 #[m.v, .int .i64 k, .int .i64 s, .int .i64 a] w fun e w' => e = .returned (.int .i64 (Span.valid m k s a)) ∧ Below w.heap.size w w' := by
  have HS : Hid (∀ r, (if (Head.size k true == 0) = true then 7 else if Span.numbered m k s = false then 12 else if Head.acks k = true ∧ Span.acks m k a = false then 13 else 0) = r → Span.valid m k s a = r) := fun r h => by rw [← h]; unfold Span.valid; simp only [beq_iff_eq]
  generalize Span.valid m k s a = r at *
  go_enter Try.func23, Try.ntmps23
  go_wp2_with fail
  refine (head_size _ _ _).mono ?_
  generalize Head.size k true = n at *
  rintro e w1 ⟨rfl, hb⟩; have hz := hb.size; (try simp only [World.size_alloc, World.size_setCell, World.size_drew] at hz); apply own_step (B := w.heap.size) hb; (focus (repeat (first | (with_reducible assumption) | (with_reducible exact own_new _ _ _) | ((with_reducible apply own_new'); focus (first | omega | (simp; done) | (simp; omega))) | (with_reducible apply own_drewN) | (with_reducible apply own_drew) | (with_reducible apply own_alloc) | (with_reducible apply own_setT) | ((with_reducible apply own_set_otherH); focus (first | (simp; done) | (simp; omega)))))); intro hO0; have hk0 := hO0.2.1; have hl0 := hO0.1; have hf0 := hO0.2.2; (try simp only [List.setIfInBounds_toArray, List.set_cons_zero, List.set_cons_succ] at hO0 hk0)
  go_wp2_with fail
  · go_returns
    exact ⟨ret_i (HS.out 7 (by simp [*])).symm, by (repeat' (first | (with_reducible exact Below.refl _ _) | (with_reducible refine below_alloc ?_ _) | (with_reducible refine Below.drew ?_) | (with_reducible refine below_drewN ?_ _) | (with_reducible refine Below.setCell ?_ ?_ _) | (with_reducible assumption) | (with_reducible refine below_of ?_ (by assumption)) | omega | (simp only [World.size_alloc, World.size_setCell, World.size_drew] at *; omega) | (simp; omega)))⟩
  · refine (span_numbered m _ _ _).mono ?_
    generalize Span.numbered m k s = nm at *
    rintro e w1 ⟨rfl, hb⟩; have hz := hb.size; (try simp only [World.size_alloc, World.size_setCell, World.size_drew] at hz); apply own_step (B := w.heap.size) hb; (focus (repeat (first | (with_reducible assumption) | (with_reducible exact own_new _ _ _) | ((with_reducible apply own_new'); focus (first | omega | (simp; done) | (simp; omega))) | (with_reducible apply own_drewN) | (with_reducible apply own_drew) | (with_reducible apply own_alloc) | (with_reducible apply own_setT) | ((with_reducible apply own_set_otherH); focus (first | (simp; done) | (simp; omega)))))); intro hO0; have hk0 := hO0.2.1; have hl0 := hO0.1; have hf0 := hO0.2.2; (try simp only [List.setIfInBounds_toArray, List.set_cons_zero, List.set_cons_succ] at hO0 hk0)
    cases nm
    · go_wp2
      go_returns
      exact ⟨ret_i (HS.out 12 (by simp [*])).symm, by (repeat' (first | (with_reducible exact Below.refl _ _) | (with_reducible refine below_alloc ?_ _) | (with_reducible refine Below.drew ?_) | (with_reducible refine below_drewN ?_ _) | (with_reducible refine Below.setCell ?_ ?_ _) | (with_reducible assumption) | (with_reducible refine below_of ?_ (by assumption)) | omega | (simp only [World.size_alloc, World.size_setCell, World.size_drew] at *; omega) | (simp; omega)))⟩
    · go_wp2_with fail
      refine (head_acks _ _).mono ?_
      generalize Head.acks k = ac at *
      rintro e w1 ⟨rfl, hb⟩; have hz := hb.size; (try simp only [World.size_alloc, World.size_setCell, World.size_drew] at hz); apply own_step (B := w.heap.size) hb; (focus (repeat (first | (with_reducible assumption) | (with_reducible exact own_new _ _ _) | ((with_reducible apply own_new'); focus (first | omega | (simp; done) | (simp; omega))) | (with_reducible apply own_drewN) | (with_reducible apply own_drew) | (with_reducible apply own_alloc) | (with_reducible apply own_setT) | ((with_reducible apply own_set_otherH); focus (first | (simp; done) | (simp; omega)))))); intro hO0; have hk0 := hO0.2.1; have hl0 := hO0.1; have hf0 := hO0.2.2; (try simp only [List.setIfInBounds_toArray, List.set_cons_zero, List.set_cons_succ] at hO0 hk0)
      cases ac
      · go_wp2
        go_returns
        exact ⟨ret_i (HS.out 0 (by simp [*])).symm, by (repeat' (first | (with_reducible exact Below.refl _ _) | (with_reducible refine below_alloc ?_ _) | (with_reducible refine Below.drew ?_) | (with_reducible refine below_drewN ?_ _) | (with_reducible refine Below.setCell ?_ ?_ _) | (with_reducible assumption) | (with_reducible refine below_of ?_ (by assumption)) | omega | (simp only [World.size_alloc, World.size_setCell, World.size_drew] at *; omega) | (simp; omega)))⟩
      · go_wp2_with fail
        refine (span_acks m _ _ _).mono ?_
        generalize Span.acks m k a = ok at *
        rintro e w1 ⟨rfl, hb⟩; have hz := hb.size; (try simp only [World.size_alloc, World.size_setCell, World.size_drew] at hz); apply own_step (B := w.heap.size) hb; (focus (repeat (first | (with_reducible assumption) | (with_reducible exact own_new _ _ _) | ((with_reducible apply own_new'); focus (first | omega | (simp; done) | (simp; omega))) | (with_reducible apply own_drewN) | (with_reducible apply own_drew) | (with_reducible apply own_alloc) | (with_reducible apply own_setT) | ((with_reducible apply own_set_otherH); focus (first | (simp; done) | (simp; omega)))))); intro hO0; have hk0 := hO0.2.1; have hl0 := hO0.1; have hf0 := hO0.2.2; (try simp only [List.setIfInBounds_toArray, List.set_cons_zero, List.set_cons_succ] at hO0 hk0)
        cases ok
        · go_wp2
          go_returns
          exact ⟨ret_i (HS.out 13 (by simp [*])).symm, by (repeat' (first | (with_reducible exact Below.refl _ _) | (with_reducible refine below_alloc ?_ _) | (with_reducible refine Below.drew ?_) | (with_reducible refine below_drewN ?_ _) | (with_reducible refine Below.setCell ?_ ?_ _) | (with_reducible assumption) | (with_reducible refine below_of ?_ (by assumption)) | omega | (simp only [World.size_alloc, World.size_setCell, World.size_drew] at *; omega) | (simp; omega)))⟩
        · go_wp2
          go_returns
          exact ⟨ret_i (HS.out 0 (by simp [*])).symm, by (repeat' (first | (with_reducible exact Below.refl _ _) | (with_reducible refine below_alloc ?_ _) | (with_reducible refine Below.drew ?_) | (with_reducible refine below_drewN ?_ _) | (with_reducible refine Below.setCell ?_ ?_ _) | (with_reducible assumption) | (with_reducible refine below_of ?_ (by assumption)) | omega | (simp only [World.size_alloc, World.size_setCell, World.size_drew] at *; omega) | (simp; omega)))⟩
/-- what the laws of this layer ask first -/
theorem span_works (w : World) : Calls Try.prog 21 #[] w fun e w' => e = .returned (.bool true) ∧ Below w.heap.size w w' := by
  go_enter Try.func21, Try.ntmps21
  go_wp2_with fail
  refine (span_begin _ _ _ _ _).mono ?_
  rw [show Span.begin 10 10 95 100 = ⟨10, 95, 10, 100, 10⟩ from by decide +kernel]
  rintro e w1 ⟨rfl, hb⟩; have hz1 := hb.size
  go_wp2_with fail
  refine (span_limits ⟨10, 95, 10, 100, 10⟩ _).mono ?_
  rw [show Span.swl ⟨10, 95, 10, 100, 10⟩ = 95 from by decide +kernel, show Span.swh ⟨10, 95, 10, 100, 10⟩ = 148 from by decide +kernel, show Span.awl ⟨10, 95, 10, 100, 10⟩ = 10 from by decide +kernel, show Span.awh ⟨10, 95, 10, 100, 10⟩ = 10 from by decide +kernel]
  rintro e w2 ⟨rfl, hb⟩; have hz := hb.size; (try simp only [World.size_alloc, World.size_setCell, World.size_drew] at hz); apply own_step (B := w1.heap.size) hb; (focus (repeat (first | (with_reducible assumption) | (with_reducible exact own_new _ _ _) | ((with_reducible apply own_new'); focus (first | omega | (simp; done) | (simp; omega))) | (with_reducible apply own_drewN) | (with_reducible apply own_drew) | (with_reducible apply own_alloc) | (with_reducible apply own_setT) | ((with_reducible apply own_set_otherH); focus (first | (simp; done) | (simp; omega)))))); intro hO0; have hk0 := hO0.2.1; have hl0 := hO0.1; have hf0 := hO0.2.2; (try simp only [List.setIfInBounds_toArray, List.set_cons_zero, List.set_cons_succ] at hO0 hk0)
  go_wp2_with fail
  refine (span_sent ⟨10, 95, 10, 100, 10⟩ _).mono ?_
  rw [show Span.sent ⟨10, 95, 10, 100, 10⟩ = ⟨10, 95, 11, 100, 10⟩ from by decide +kernel]
  rintro e w3 ⟨rfl, hb⟩; have hz := hb.size; (try simp only [World.size_alloc, World.size_setCell, World.size_drew] at hz); apply own_step (B := w1.heap.size) hb; (focus (repeat (first | (with_reducible assumption) | (with_reducible exact own_new _ _ _) | ((with_reducible apply own_new'); focus (first | omega | (simp; done) | (simp; omega))) | (with_reducible apply own_drewN) | (with_reducible apply own_drew) | (with_reducible apply own_alloc) | (with_reducible apply own_setT) | ((with_reducible apply own_set_otherH); focus (first | (simp; done) | (simp; omega)))))); intro hO0; have hk0 := hO0.2.1; have hl0 := hO0.1; have hf0 := hO0.2.2; (try simp only [List.setIfInBounds_toArray, List.set_cons_zero, List.set_cons_succ] at hO0 hk0)
  go_wp2_with fail
  refine (span_valid ⟨10, 95, 11, 100, 10⟩ _ _ _ _).mono ?_
  rw [show Span.valid ⟨10, 95, 11, 100, 10⟩ 2 149 0 = 12 from by decide +kernel]
  rintro e w4 ⟨rfl, hb⟩; have hz := hb.size; (try simp only [World.size_alloc, World.size_setCell, World.size_drew] at hz); apply own_step (B := w1.heap.size) hb; (focus (repeat (first | (with_reducible assumption) | (with_reducible exact own_new _ _ _) | ((with_reducible apply own_new'); focus (first | omega | (simp; done) | (simp; omega))) | (with_reducible apply own_drewN) | (with_reducible apply own_drew) | (with_reducible apply own_alloc) | (with_reducible apply own_setT) | ((with_reducible apply own_set_otherH); focus (first | (simp; done) | (simp; omega)))))); intro hO0; have hk0 := hO0.2.1; have hl0 := hO0.1; have hf0 := hO0.2.2; (try simp only [List.setIfInBounds_toArray, List.set_cons_zero, List.set_cons_succ] at hO0 hk0)
  go_wp2_with fail
  refine (span_valid ⟨10, 95, 11, 100, 10⟩ _ _ _ _).mono ?_
  rw [show Span.valid ⟨10, 95, 11, 100, 10⟩ 2 148 0 = 0 from by decide +kernel]
  rintro e w5 ⟨rfl, hb⟩; have hz := hb.size; (try simp only [World.size_alloc, World.size_setCell, World.size_drew] at hz); apply own_step (B := w1.heap.size) hb; (focus (repeat (first | (with_reducible assumption) | (with_reducible exact own_new _ _ _) | ((with_reducible apply own_new'); focus (first | omega | (simp; done) | (simp; omega))) | (with_reducible apply own_drewN) | (with_reducible apply own_drew) | (with_reducible apply own_alloc) | (with_reducible apply own_setT) | ((with_reducible apply own_set_otherH); focus (first | (simp; done) | (simp; omega)))))); intro hO0; have hk0 := hO0.2.1; have hl0 := hO0.1; have hf0 := hO0.2.2; (try simp only [List.setIfInBounds_toArray, List.set_cons_zero, List.set_cons_succ] at hO0 hk0)
  go_wp2_with fail
  go_returns
  exact ⟨rfl, by (repeat' (first | (with_reducible exact Below.refl _ _) | (with_reducible refine below_alloc ?_ _) | (with_reducible refine Below.drew ?_) | (with_reducible refine below_drewN ?_ _) | (with_reducible refine Below.setCell ?_ ?_ _) | (with_reducible assumption) | (with_reducible refine below_of ?_ (by assumption)) | omega | (simp only [World.size_alloc, World.size_setCell, World.size_drew] at *; omega) | (simp; omega)))⟩
theorem spanNext_any (a b c d e k : Int) (w : World) : Calls Try.prog 4 #[.agg #[.int .i64 a, .int .i64 b, .int .i64 c, .int .i64 d, .int .i64 e], .int .i64 k] w fun e w' => e = .returned (.bool true) ∧ Below w.heap.size w w' := by
  go_enter Try.func4, Try.ntmps4
  go_wp2_with fail
  refine (span_works _).mono ?_
  rintro e w1 ⟨rfl, hb⟩; have hz := hb.size; (try simp only [World.size_alloc, World.size_setCell, World.size_drew] at hz); apply own_step (B := w.heap.size) hb; (focus (repeat (first | (with_reducible assumption) | (with_reducible exact own_new _ _ _) | ((with_reducible apply own_new'); focus (first | omega | (simp; done) | (simp; omega))) | (with_reducible apply own_drewN) | (with_reducible apply own_drew) | (with_reducible apply own_alloc) | (with_reducible apply own_setT) | ((with_reducible apply own_set_otherH); focus (first | (simp; done) | (simp; omega)))))); intro hO0; have hk0 := hO0.2.1; have hl0 := hO0.1; have hf0 := hO0.2.2; (try simp only [List.setIfInBounds_toArray, List.set_cons_zero, List.set_cons_succ] at hO0 hk0)
  go_wp2_with fail
  refine (span_begin _ _ _ _ _).mono ?_
  have hv := Span.valid_next a b k
  have h1 := Circ.of_lo b
  have h2 := Circ.of_hi b
  have hd1 : (Span.begin a a b b).gsr = Circ.of b := rfl
  rw [← hd1] at h1 h2
  clear hd1
  generalize Span.begin a a b b = m at *
  rintro e w2 ⟨rfl, hb⟩; have hz := hb.size; (try simp only [World.size_alloc, World.size_setCell, World.size_drew] at hz); apply own_step (B := w.heap.size) hb; (focus (repeat (first | (with_reducible assumption) | (with_reducible exact own_new _ _ _) | ((with_reducible apply own_new'); focus (first | omega | (simp; done) | (simp; omega))) | (with_reducible apply own_drewN) | (with_reducible apply own_drew) | (with_reducible apply own_alloc) | (with_reducible apply own_setT) | ((with_reducible apply own_set_otherH); focus (first | (simp; done) | (simp; omega)))))); intro hO0; have hk0 := hO0.2.1; have hl0 := hO0.1; have hf0 := hO0.2.2; (try simp only [List.setIfInBounds_toArray, List.set_cons_zero, List.set_cons_succ] at hO0 hk0)
  go_wp2_with fail
  refine (span_valid m _ _ _ _).mono ?_
  generalize Span.valid m k (m.gsr + 1) m.gss = x at *
  have hv := hv x rfl
  rintro e w3 ⟨rfl, hb⟩; have hz := hb.size; (try simp only [World.size_alloc, World.size_setCell, World.size_drew] at hz); apply own_step (B := w.heap.size) hb; (focus (repeat (first | (with_reducible assumption) | (with_reducible exact own_new _ _ _) | ((with_reducible apply own_new'); focus (first | omega | (simp; done) | (simp; omega))) | (with_reducible apply own_drewN) | (with_reducible apply own_drew) | (with_reducible apply own_alloc) | (with_reducible apply own_setT) | ((with_reducible apply own_set_otherH); focus (first | (simp; done) | (simp; omega)))))); intro hO0; have hk0 := hO0.2.1; have hl0 := hO0.1; have hf0 := hO0.2.2; (try simp only [List.setIfInBounds_toArray, List.set_cons_zero, List.set_cons_succ] at hO0 hk0)
  rcases hv with ⟨rfl, h3, h4⟩ | ⟨rfl, h3⟩
  · go_wp2
    go_returns
    exact ⟨rfl, by (repeat' (first | (with_reducible exact Below.refl _ _) | (with_reducible refine below_alloc ?_ _) | (with_reducible refine Below.drew ?_) | (with_reducible refine below_drewN ?_ _) | (with_reducible refine Below.setCell ?_ ?_ _) | (with_reducible assumption) | (with_reducible refine below_of ?_ (by assumption)) | omega | (simp only [World.size_alloc, World.size_setCell, World.size_drew] at *; omega) | (simp; omega)))⟩
  · by_cases h0 : 0 ≤ k
    · have h9 : ¬ k ≤ 9 := by omega
      have e0 : decide (0 ≤ k) = true := by simpa using h0
      have e9 : decide (k ≤ 9) = false := by simpa using h9
      go_wp2
      go_returns
      exact ⟨rfl, by (repeat' (first | (with_reducible exact Below.refl _ _) | (with_reducible refine below_alloc ?_ _) | (with_reducible refine Below.drew ?_) | (with_reducible refine below_drewN ?_ _) | (with_reducible refine Below.setCell ?_ ?_ _) | (with_reducible assumption) | (with_reducible refine below_of ?_ (by assumption)) | omega | (simp only [World.size_alloc, World.size_setCell, World.size_drew] at *; omega) | (simp; omega)))⟩
    · have e0 : decide (0 ≤ k) = false := by simpa using h0
      go_wp2
      go_returns
      exact ⟨rfl, by (repeat' (first | (with_reducible exact Below.refl _ _) | (with_reducible refine below_alloc ?_ _) | (with_reducible refine Below.drew ?_) | (with_reducible refine below_drewN ?_ _) | (with_reducible refine Below.setCell ?_ ?_ _) | (with_reducible assumption) | (with_reducible refine below_of ?_ (by assumption)) | omega | (simp only [World.size_alloc, World.size_setCell, World.size_drew] at *; omega) | (simp; omega)))⟩
set_option maxRecDepth 100000 in
theorem spanNext_walk {H : Type} {enc : TypeId × Value → H} {base : Nat} {v0 v1 : Value} {d0 d1 : DataW H} {p0 p1 : List MemPlace} {W : World} (hv0 : Value.okWide Try.prog W .any base 32 v0)
    (h0 : DataW.Trod enc Try.prog W 0 (fun _ => true) true 32 v0 d0 p0) (hv1 : Value.okWide Try.prog W .any base 3 v1) (h1 : DataW.Trod enc Try.prog W 0 (fun _ => true) true 3 v1 d1 p1) :
    Calls Try.prog 4 #[v0, v1] W fun e w' => e = .returned (.bool true) ∧ Below W.heap.size W w' := by
  obtain ⟨k, rfl, rfl, rfl, wk⟩ := open_int Try.underlying3 hv1 h1
  obtain ⟨cs, rfl, hsz⟩ := okWide_struct Try.underlying32 hv0
  rw [show Try.prog.cellsOf 32 = 5 from by kernel_rfl] at hsz
  obtain ⟨l⟩ := cs
  obtain ⟨a_c, b_c, c_c, d_c, e_c, rfl⟩ := list5 l (by simpa using hsz)
  obtain ⟨fuel, hf⟩ := h0
  obtain ⟨xs, n, _, _, _, hlen, hg⟩ := DataW.trod_struct Try.underlying32 hf
  obtain ⟨y, hy⟩ : ∃ y, xs[0]? = some y := ⟨_, List.getElem?_eq_getElem (by rw [hlen]; decide)⟩
  rw [← hg 0 _ rfl] at hy
  simp [Value.cells, show Try.prog.cellsOf 3 = 1 from by kernel_rfl] at hy
  obtain ⟨a, e, _, w_a⟩ := DataW.trod_int Try.underlying3 hy
  simp at e
  subst e
  clear hy
  obtain ⟨y, hy⟩ : ∃ y, xs[1]? = some y := ⟨_, List.getElem?_eq_getElem (by rw [hlen]; decide)⟩
  rw [← hg 1 _ rfl] at hy
  simp [Value.cells, show Try.prog.cellsOf 3 = 1 from by kernel_rfl] at hy
  obtain ⟨b, e, _, w_b⟩ := DataW.trod_int Try.underlying3 hy
  simp at e
  subst e
  clear hy
  obtain ⟨y, hy⟩ : ∃ y, xs[2]? = some y := ⟨_, List.getElem?_eq_getElem (by rw [hlen]; decide)⟩
  rw [← hg 2 _ rfl] at hy
  simp [Value.cells, show Try.prog.cellsOf 3 = 1 from by kernel_rfl] at hy
  obtain ⟨c, e, _, w_c⟩ := DataW.trod_int Try.underlying3 hy
  simp at e
  subst e
  clear hy
  obtain ⟨y, hy⟩ : ∃ y, xs[3]? = some y := ⟨_, List.getElem?_eq_getElem (by rw [hlen]; decide)⟩
  rw [← hg 3 _ rfl] at hy
  simp [Value.cells, show Try.prog.cellsOf 3 = 1 from by kernel_rfl] at hy
  obtain ⟨d, e, _, w_d⟩ := DataW.trod_int Try.underlying3 hy
  simp at e
  subst e
  clear hy
  obtain ⟨y, hy⟩ : ∃ y, xs[4]? = some y := ⟨_, List.getElem?_eq_getElem (by rw [hlen]; decide)⟩
  rw [← hg 4 _ rfl] at hy
  simp [Value.cells, show Try.prog.cellsOf 3 = 1 from by kernel_rfl] at hy
  obtain ⟨e, e, _, w_e⟩ := DataW.trod_int Try.underlying3 hy
  simp at e
  subst e
  clear hy
  clear hg hlen hf hsz
  exact spanNext_any a b c d e k W
end Go.Proofs.Ytnhfhnphmjhamaa
