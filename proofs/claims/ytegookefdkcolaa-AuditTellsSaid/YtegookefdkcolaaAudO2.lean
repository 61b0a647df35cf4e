/- Audit: a view's copy is the view. No conditions. -/
import Derived.Test.YtegookefdkcolaaAudO
namespace Go.Proofs.Ytegookefdkcolaa
set_option linter.unusedVariables false
set_option linter.unusedSimpArgs false
open Go.RowKit Sym Go.ChangeShapes Go.WideShapes Go.ChangeMaps

theorem rowCells_at {n sz : Nat} {f : Nat → Nat → Value} (i j : Nat) (hi : i < n) (hj : j < sz) : cellAt (rowCells n sz f) (i * sz + j) = f i j := by
  have hl : i * sz + j < n * sz := by
    have h1 : (i + 1) * sz ≤ n * sz := Nat.mul_le_mul_right _ hi
    rw [Nat.add_mul, Nat.one_mul] at h1
    omega
  have h1 : i * sz + j < (rowCells n sz f).length := by rw [rowCells_length]; exact hl
  obtain ⟨-, -, h2⟩ := rowCells_get n sz f (List.getElem?_eq_getElem h1)
  have d1 : (i * sz + j) / sz = i := by rw [Nat.mul_comm, Nat.mul_add_div (by omega)]; rw [Nat.div_eq_of_lt hj]; omega
  have d2 : (i * sz + j) % sz = j := by rw [Nat.mul_comm, Nat.mul_add_mod]; exact Nat.mod_eq_of_lt hj
  rw [d1, d2] at h2
  unfold cellAt
  rw [List.getD_eq_getElem?_getD, List.getElem?_eq_getElem h1, h2]; rfl
theorem seenC_length (P : Nat → Pt) : ∀ n, (seenC P n).length = n * 9
  | 0 => rfl
  | n + 1 => by rw [seenC, List.length_append, seenC_length P n]; simp only [List.length_cons, List.length_nil]; omega
theorem seenC_at (P : Nat → Pt) : ∀ (n i j : Nat), i < n → j < 9 → cellAt (seenC P n) (i * 9 + j) = .int .i64 ((P i).c j)
  | 0, i, j, h, _ => by omega
  | n + 1, i, j, h, hj => by
    unfold cellAt
    rw [seenC, List.getD_eq_getElem?_getD]
    by_cases e : i < n
    · rw [List.getElem?_append_left (by rw [seenC_length]; omega)]
      have := seenC_at P n i j e hj
      unfold cellAt at this
      rw [List.getD_eq_getElem?_getD] at this
      exact this
    · obtain rfl : i = n := by omega
      rw [List.getElem?_append_right (by rw [seenC_length]; omega), seenC_length, Nat.add_sub_cancel_left]
      match j, hj with
      | 0, _ => rfl
      | 1, _ => rfl
      | 2, _ => rfl
      | 3, _ => rfl
      | 4, _ => rfl
      | 5, _ => rfl
      | 6, _ => rfl
      | 7, _ => rfl
      | 8, _ => rfl
theorem allOne_row {n sz : Nat} {f : Nat → Nat → Value} (h : ∀ i j, i < n → j < sz → (f i j).oneCell' = true) : allOneP (rowCells n sz f) := by
  intro u hu
  obtain ⟨j, hj, rfl⟩ := List.mem_iff_getElem.1 hu
  obtain ⟨h1, h2, h3⟩ := rowCells_get n sz f (List.getElem?_eq_getElem hj)
  rw [h3]; exact h _ _ h1 h2
set_option maxRecDepth 100000 in
theorem own_run (v : VwR) : runF Try.prog (onlyS Try.prog noS) noL Try.f10 (Try.f10.body.getD .skip) [v.s (.ref 0) (.ref 1) (.ref 2)] v.rows = T.need ((0 : Nat) + v.14 ≤ (9223372036854775807 : Nat) ∧ ((0 : Nat) + v.14) * (72 : Nat) ≤ (140737488355328 : Nat)) (T.need (allOneP (rowCells v.14 (9 : Nat) v.15)) (T.need ((0 : Nat) + v.16 ≤ (9223372036854775807 : Nat) ∧ ((0 : Nat) + v.16) * (8 : Nat) ≤ (140737488355328 : Nat)) (T.need (allOneP (rowCells v.16 (1 : Nat) v.17)) (T.need ((0 : Nat) + v.18 ≤ (9223372036854775807 : Nat) ∧ ((0 : Nat) + v.18) * (8 : Nat) ≤ (140737488355328 : Nat)) (T.need (allOneP (rowCells v.18 (1 : Nat) v.19)) (T.leaf (SV.agg (List.take (16 : Nat) (List.drop (0 : Nat) [SV.v (Value.int IntKind.i64 v.1), SV.v (Value.bool v.2), SV.v (Value.int IntKind.i64 v.3), SV.ref (6 : Nat), SV.ref (8 : Nat), SV.ref (10 : Nat), SV.v (Value.int IntKind.i64 v.4), SV.v (Value.int IntKind.i64 v.5), SV.v (Value.int IntKind.i64 v.6), SV.v (Value.int IntKind.i64 v.7), SV.v (Value.int IntKind.i64 v.8), SV.v (Value.int IntKind.i64 v.9), SV.v (Value.int IntKind.i64 v.10), SV.v (Value.int IntKind.i64 v.11), SV.v (Value.int IntKind.i64 v.12), SV.v (Value.int IntKind.i64 v.13)])), [Blk.row v.14 (9 : Nat) v.15, Blk.row v.16 (1 : Nat) v.17, Blk.row v.18 (1 : Nat) v.19, Blk.own [SV.v (Value.int IntKind.i64 v.1), SV.v (Value.bool v.2), SV.v (Value.int IntKind.i64 v.3), SV.ref (6 : Nat), SV.ref (8 : Nat), SV.ref (10 : Nat), SV.v (Value.int IntKind.i64 v.4), SV.v (Value.int IntKind.i64 v.5), SV.v (Value.int IntKind.i64 v.6), SV.v (Value.int IntKind.i64 v.7), SV.v (Value.int IntKind.i64 v.8), SV.v (Value.int IntKind.i64 v.9), SV.v (Value.int IntKind.i64 v.10), SV.v (Value.int IntKind.i64 v.11), SV.v (Value.int IntKind.i64 v.12), SV.v (Value.int IntKind.i64 v.13)], Blk.own [SV.v (Value.int IntKind.i64 v.1), SV.v (Value.bool v.2), SV.v (Value.int IntKind.i64 v.3), SV.ref (6 : Nat), SV.ref (8 : Nat), SV.ref (10 : Nat), SV.v (Value.int IntKind.i64 v.4), SV.v (Value.int IntKind.i64 v.5), SV.v (Value.int IntKind.i64 v.6), SV.v (Value.int IntKind.i64 v.7), SV.v (Value.int IntKind.i64 v.8), SV.v (Value.int IntKind.i64 v.9), SV.v (Value.int IntKind.i64 v.10), SV.v (Value.int IntKind.i64 v.11), SV.v (Value.int IntKind.i64 v.12), SV.v (Value.int IntKind.i64 v.13)], Blk.gone, Blk.vec false (45 : Nat) (9 : Nat) ((0 : Nat) + v.14) ([] ++ rowCells v.14 (9 : Nat) v.15), Blk.gone, Blk.vec false (3 : Nat) (1 : Nat) ((0 : Nat) + v.16) ([] ++ rowCells v.16 (1 : Nat) v.17), Blk.gone, Blk.vec false (3 : Nat) (1 : Nat) ((0 : Nat) + v.18) ([] ++ rowCells v.18 (1 : Nat) v.19)]))))))) := by kernel_rfl
def VwR.dupS (v : VwR) : List SV := [.v (.int .i64 v.st), .v (.bool v.multi), .v (.int .i64 v.now), .ref 6, .ref 8, .ref 10, .v (.int .i64 v.queue), .v (.int .i64 v.waits), .v (.int .i64 v.ready), .v (.int .i64 v.control), .v (.int .i64 v.outs), .v (.int .i64 v.came), .v (.int .i64 v.refused), .v (.int .i64 v.spilled), .v (.int .i64 v.given), .v (.int .i64 v.skipped)]
def fOwn : List SV → List Blk → Option (T (SV × List Blk))
  | [.agg l], [.row n 9 f, .row k 1 g, .row m 1 h] => match vwOf [.row n 9 f, .row k 1 g, .row m 1 h] l with
    | some (v, .ref 0, .ref 1, .ref 2) => some (.need (CkP v) (.leaf (.agg v.dupS, [.gone, .gone, .gone, .gone, .gone, .gone, .vec false 45 9 v.n (rowCells v.n 9 v.f), .gone, .vec false 3 1 v.k (rowCells v.k 1 v.g), .gone, .vec false 3 1 v.l (rowCells v.l 1 v.h)])))
    | _ => none
  | _, _ => none
theorem one_ints {n : Nat} {g : Nat → Nat → Value} (h : AllI n g) : allOneP (rowCells n 1 g) := allOne_row fun i j hi hj => by
  obtain rfl : j = 0 := by omega
  rw [h i hi]; rfl
set_option maxRecDepth 100000 in
theorem fOwn_ok : EntryOk Try.prog 10 fOwn := by
  intro ss H t ht bs B w vs hm hv Qs hq
  unfold fOwn at ht
  split at ht
  · rename_i l n f k g m h
    split at ht
    · rename_i v hvw
      simp only [Option.some.injEq] at ht
      subst ht
      obtain ⟨⟨⟨hn, hp⟩, hg, hh, hk⟩, hq⟩ := hq
      obtain ⟨hl, ⟨rfl, rfl⟩, ⟨rfl, rfl⟩, rfl, rfl⟩ := vwOf_rows hvw
      simp only [SV.agg.injEq] at hl
      subst hl
      obtain ⟨-, k2, k3, -⟩ := hk
      have run := own_run v
      refine (inl_ok (L := noL) (onlyS_ok noS_ok) follows Try.func10 (by kernel_rfl) (by kernel_rfl) (noloops (by kernel_rfl)) [v.s (.ref 0) (.ref 1) (.ref 2)] v.rows _ rfl bs B w vs hm hv (fun r => r.1 = .agg v.dupS ∧ r.2 = v.rows ++ [.own v.dupS, .own v.dupS, .gone, .vec false 45 9 v.n (rowCells v.n 9 v.f), .gone, .vec false 3 1 v.k (rowCells v.k 1 v.g), .gone, .vec false 3 1 v.l (rowCells v.l 1 v.h)]) ?_).mono ?_
      · rw [run]
        refine t_need ⟨by omega, by omega⟩ (t_need (allOne_row fun i j hi hj => by rw [hp i j hi hj]; rfl) (t_need ⟨by omega, by omega⟩ (t_need (one_ints hg) (t_need ⟨by omega, by omega⟩ (t_need (one_ints hh) (t_leaf ⟨rfl, ?_⟩))))))
        rw [Nat.zero_add, Nat.zero_add, Nat.zero_add]; rfl
      · rintro e w' ⟨s1, H1, B1, x, ⟨h1, h2⟩, hpr, he', hx, hm'⟩
        dsimp only at h1 h2
        subst h1 h2
        exact ⟨_, _, B1, x, hq, hpr, he', hx, ((((hm'.drop 0).drop 1).drop 2).drop 3).drop 4⟩
    · cases ht
  · cases ht
/-! views that tell the same -/
structure VwR.Same (v u : VwR) : Prop where
  sc : u = { v with f := u.f, g := u.g, h := u.h }
  f : ∀ i j, i < v.n → j < 9 → u.f i j = v.f i j
  g : ∀ i j, i < v.k → j < 1 → u.g i j = v.g i j
  h : ∀ i j, i < v.l → j < 1 → u.h i j = v.h i j
def clipF (n sz : Nat) (f : Nat → Nat → Value) : Nat → Nat → Value := fun i j => cellAt (rowCells n sz f) (i * sz + j)
def VwR.clip (v : VwR) : VwR := { v with f := clipF v.n 9 v.f, g := clipF v.k 1 v.g, h := clipF v.l 1 v.h }
theorem rowCells_congr {n sz : Nat} {f g : Nat → Nat → Value} (e : ∀ i j, i < n → j < sz → f i j = g i j) : rowCells n sz f = rowCells n sz g := by
  have key : ∀ m, m ≤ n → rowCells m sz f = rowCells m sz g := by
    intro m
    induction m with
    | zero => intro _; rfl
    | succ m ih =>
      intro hm
      have e1 : ∀ h : Nat → Nat → Value, rowCells (m + 1) sz h = rowCells m sz h ++ (List.range sz).map (h m) := fun h => by
        unfold rowCells; rw [List.range_succ, List.flatMap_append]; simp
      rw [e1, e1, ih (by omega), List.map_congr_left fun j hj => e m j (by omega) (List.mem_range.1 hj)]
  exact key n (Nat.le_refl _)
theorem clipF_at {n sz : Nat} {f : Nat → Nat → Value} (i j : Nat) (hi : i < n) (hj : j < sz) : clipF n sz f i j = f i j := rowCells_at i j hi hj
theorem VwR.Same.clip {v u : VwR} (h : v.Same u) : u.clip = v.clip := by
  obtain ⟨sc, hf, hg, hh⟩ := h
  obtain ⟨a1, a2, a3, a4, a5, a6, a7, a8, a9, a10, a11, a12, a13, n, f, k, g, l, h⟩ := v
  obtain ⟨b1, b2, b3, b4, b5, b6, b7, b8, b9, b10, b11, b12, b13, n', f', k', g', l', h'⟩ := u
  simp only [VwR.mk.injEq] at sc
  obtain ⟨rfl, rfl, rfl, rfl, rfl, rfl, rfl, rfl, rfl, rfl, rfl, rfl, rfl, rfl, -, rfl, -, rfl, -⟩ := sc
  have ef : clipF n' 9 f' = clipF n' 9 f := by unfold clipF; rw [rowCells_congr hf]
  have eg : clipF k' 1 g' = clipF k' 1 g := by unfold clipF; rw [rowCells_congr hg]
  have eh : clipF l' 1 h' = clipF l' 1 h := by unfold clipF; rw [rowCells_congr hh]
  simp only [VwR.clip, ef, eg, eh]
theorem VwR.clip_same (v : VwR) : v.Same v.clip := ⟨rfl, fun i j hi hj => clipF_at i j hi hj, fun i j hi hj => clipF_at i j hi hj, fun i j hi hj => clipF_at i j hi hj⟩
theorem pt_same {n : Nat} {f f' : Nat → Nat → Value} (e : ∀ i j, i < n → j < 9 → f' i j = f i j) (h : AllPt n f) : AllPt n f' := by
  intro i j hi hj
  have q : ptF f' i = ptF f i := by
    unfold ptF
    rw [e i 0 hi (by omega), e i 1 hi (by omega), e i 2 hi (by omega), e i 3 hi (by omega), e i 4 hi (by omega), e i 5 hi (by omega), e i 6 hi (by omega), e i 7 hi (by omega), e i 8 hi (by omega)]
  rw [e i j hi hj, q, h i j hi hj]
theorem int_same {n : Nat} {f f' : Nat → Nat → Value} (e : ∀ i j, i < n → j < 1 → f' i j = f i j) (h : AllI n f) : AllI n f' := by
  intro i hi
  have q : ints f' i = ints f i := by unfold ints; rw [e i 0 hi (by omega)]
  rw [e i 0 hi (by omega), q, h i hi]
theorem VwR.Same.ck {v u : VwR} (h : v.Same u) (p : CkP v) : CkP u := by
  obtain ⟨sc, hf, hg, hh⟩ := h
  obtain ⟨a1, a2, a3, a4, a5, a6, a7, a8, a9, a10, a11, a12, a13, n, f, k, g, l, h⟩ := v
  obtain ⟨b1, b2, b3, b4, b5, b6, b7, b8, b9, b10, b11, b12, b13, n', f', k', g', l', h'⟩ := u
  simp only [VwR.mk.injEq] at sc
  obtain ⟨rfl, rfl, rfl, rfl, rfl, rfl, rfl, rfl, rfl, rfl, rfl, rfl, rfl, rfl, -, rfl, -, rfl, -⟩ := sc
  obtain ⟨⟨p1, p2⟩, p3, p4, p5⟩ := p
  exact ⟨⟨p1, pt_same hf p2⟩, int_same hg p3, int_same hh p4, p5⟩
theorem VwR.Same.is {v u : VwR} (h : v.Same u) {w : World} {x : Value} (hv : v.Is w x) : u.Is w x := by
  obtain ⟨sc, hf, hg, hh⟩ := h
  obtain ⟨a, b, c, rfl, r1, r2, r3⟩ := hv
  obtain ⟨a1, a2, a3, a4, a5, a6, a7, a8, a9, a10, a11, a12, a13, n, f, k, g, l, h⟩ := v
  obtain ⟨b1, b2, b3, b4, b5, b6, b7, b8, b9, b10, b11, b12, b13, n', f', k', g', l', h'⟩ := u
  simp only [VwR.mk.injEq] at sc
  obtain ⟨rfl, rfl, rfl, rfl, rfl, rfl, rfl, rfl, rfl, rfl, rfl, rfl, rfl, rfl, -, rfl, -, rfl, -⟩ := sc
  exact ⟨a, b, c, rfl, fun B => row_congr (r1 B) fun i j hi hj => (hf i j hi hj).symm, fun B => row_congr (r2 B) fun i j hi hj => (hg i j hi hj).symm, fun B => row_congr (r3 B) fun i j hi hj => (hh i j hi hj).symm⟩
end Go.Proofs.Ytegookefdkcolaa
