/- Who says another tag is not let in: the law. No conditions. -/
import Derived.Test.YtjlgcfcejdeecaaJoinO
import Derived.Test.YtjlgcfcejdeecaaJoinX
namespace Go.Proofs.Ytjlgcfcejdeecaa
set_option linter.unusedVariables false
set_option linter.unusedSimpArgs false
open Go.RowKit Sym Sha Go.ChangeShapes Go.WideShapes Go.ChangeMaps

theorem tagPR (a b x : ByteArray) : tagP (p8 a) (p8 b) x = tagR (p8 a) (p8 b) x := by
  unfold tagP tagR
  rw [if_neg (fun h => p8_ne a h.1), if_neg (p8_ne a)]
theorem letE_iff (n : Nat) (g : Nat → Mu) (x : ByteArray) : decide (letE n g x = 0) = letB n g x := by
  unfold letE letB
  cases findB n g 5
  · rfl
  · cases muEq (findM n g 5) x <;> rfl
theorem letS_iff (n : Nat) (g : Nat → Mu) (x a : ByteArray) (ha : ¬ a = nilB) : decide (letS n g x a = a) = letB n g x := by
  unfold letS
  cases letB n g x
  · exact decide_eq_false fun h => ha h.symm
  · exact decide_eq_true rfl
theorem allMu_c (n : Nat) (g : Nat → Mu) : AllMu n fun i j => (g i).c j := fun i _ j hj => by
  match j, hj with
  | 0, _ => rfl
  | 1, _ => rfl
  | 2, _ => rfl
  | 3, _ => rfl
  | 4, _ => rfl
  | 5, _ => rfl
  | 6, _ => rfl
theorem greatJ_few {n : Nat} {g : Nat → Mu} (h : Nat.blt (firstOf (earlyJ g) n 0) n = false) : n ≤ 20 ∧ ∀ i, i < n → (g i).bytes.size ≤ 300 := by
  obtain ⟨-, he, h1, -⟩ := firstOf_spec (earlyJ g) n 0
  rw [Nat.zero_add] at he
  rw [← Bool.not_eq_true, Nat.blt_eq] at h
  have hno : ∀ j, j < n → j < 20 ∧ (g j).bytes.size ≤ 300 := fun j hj => earlyJ_no (h1 j (Nat.zero_le _) (by omega))
  refine ⟨?_, fun i hi => (hno i hi).2⟩
  by_cases h0 : n = 0
  · omega
  · have := (hno (n - 1) (by omega)).1; omega
theorem joinNot_any (n : Nat) (g : Nat → Mu) (hn : n ≤ maxLen) (way : Int) (key : ByteArray) (tok x y : Int) (wa wb : ByteArray) (f t : Int) (v : Value) (w : World) (hv : ∀ B, BlkSat B w v (.row n 7 fun i j => (g i).c j)) :
    Calls Try.prog 3 #[.agg #[.int .i64 way, .string key, .int .i64 tok, .int .i64 x, .int .i64 y], .agg #[.string wa, .string wb], .agg #[.int .i64 f, .int .i64 t], v] w fun e w' => e = .returned (.bool true) ∧ Below w.heap.size w w' := by
  have hC : TabOk Try.prog (addS 14 tTrue29 (SJoin1 Try.prog Try.f33 Try.f18)) := addS_ok SJoin1_ok (by kernel_rfl) (by (intro xs p v h hp w; unfold tTrue29 at h; (split at h) <;> first | (cases h; done) | (simp only [Option.some.injEq, Prod.mk.injEq] at h; obtain ⟨rfl, rfl⟩ := h; exact works29 w)))
  have hK := bothM_ok (F := FNot) (fs := [17, 15]) (X := []) (M := [(7, [3, 4, 6, 9, 10, 11, 12, 13])]) hC FNot_ok
  have ha := p8_size wa
  have hb := p8_size wb
  refine calls_runO hK follows Try.func3 (by kernel_rfl) (lexAllF_ok (by kernel_rfl)) (one_loop (b := loopAt Try.f3 0) (id := 0) (by kernel_rfl) fun st u h => ?_) (not_run n g way key tok x y wa wb f t) ?_ (mem_row (hv [v])) rfl
  · rw [addL_same h]
    exact loop_cnt hK follows (by kernel_rfl) (noloops (by kernel_rfl)) (fun c => c ≤ n) (jNI n g key tok x y wa wb f t (p8 wa) (p8 wb)) (fun c => c) 6 keepN [] [] 0 [15] (jN_step n g hn key tok x y wa wb f t (p8 wa) (p8 wb) (by omega) (by omega)) (i0 := n) (Nat.le_refl n)
  · have hall := allMu_c n g
    have hmu : (muF fun i j => (g i).c j) = g := rfl
    rw [hmu]
    have hw : IntKind.i64.wrap ((n : Int) - 1) = (n : Int) - 1 := by unfold maxLen at hn; rw [w64 _ (by omega) (by omega)]
    have hna : ¬ p8 wa = nilB := p8_ne wa
    have hnb : ¬ p8 wb = nilB := p8_ne wb
    refine ⟨(fun h => by cases h), fun _ => ⟨hall, fun _ => rfl, fun hg => ⟨fun _ => rfl, fun hk => ⟨fun _ => rfl, fun h1 => ⟨fun _ => rfl, fun h2 => ?_⟩⟩⟩⟩⟩
    have h1 := of_decide_eq_false h1
    have h2 := of_decide_eq_false h2
    refine ⟨⟨by omega, by omega⟩, ⟨rfl, hn, hall, by omega, by omega⟩, ⟨⟨rfl, hn, hall, by omega, by omega⟩, rfl⟩, rfl, ?_, ?_⟩
    · unfold jNI
      rw [rB_end, hw]
      rfl
    · rw [rB_zero, tagPR, letE_iff, letS_iff _ _ _ _ hna, letS_iff _ _ _ _ hnb]
      generalize letB n g (tagR (p8 wa) (p8 wb) (joinText 0 f t x y)) = b
      cases b
      · exact ⟨fun _ => rfl, fun h => by cases h⟩
      · exact ⟨fun _ => rfl, fun h => by cases h⟩
set_option maxRecDepth 100000 in
theorem joinNot_walk {H : Type} {enc : TypeId × Value → H} {base : Nat} {v0 v1 v2 v3 : Value} {d0 d1 d2 d3 : DataW H} {p0 p1 p2 p3 : List MemPlace} {W : World}
    (hv0 : Value.okWide Try.prog W .any base 23 v0) (h0 : DataW.Trod enc Try.prog W 0 (fun _ => true) true 23 v0 d0 p0)
    (hv1 : Value.okWide Try.prog W .any base 25 v1) (h1 : DataW.Trod enc Try.prog W 0 (fun _ => true) true 25 v1 d1 p1)
    (hv2 : Value.okWide Try.prog W .any base 27 v2) (h2 : DataW.Trod enc Try.prog W 0 (fun _ => true) true 27 v2 d2 p2)
    (hv3 : Value.okWide Try.prog W .any base 28 v3) (h3 : DataW.Trod enc Try.prog W 0 (fun _ => true) true 28 v3 d3 p3) :
    Calls Try.prog 3 #[v0, v1, v2, v3] W fun e w' => e = .returned (.bool true) ∧ Below W.heap.size W w' := by
  obtain ⟨cs, rfl, hsz⟩ := okWide_struct Try.underlying27 hv2
  rw [show Try.prog.cellsOf 27 = 2 from by kernel_rfl] at hsz
  obtain ⟨l⟩ := cs
  obtain ⟨f_c, t_c, rfl⟩ := list2 l (by simpa using hsz)
  obtain ⟨fuel, hf⟩ := h2
  obtain ⟨xs, n, _, _, _, hlen, hg⟩ := DataW.trod_struct Try.underlying27 hf
  obtain ⟨y, hy⟩ : ∃ y, xs[0]? = some y := ⟨_, List.getElem?_eq_getElem (by rw [hlen]; decide)⟩
  rw [← hg 0 _ rfl] at hy
  simp [Value.cells, show Try.prog.cellsOf 3 = 1 from by kernel_rfl] at hy
  obtain ⟨f, e, _, w_f⟩ := DataW.trod_int Try.underlying3 hy
  simp at e
  subst e
  clear hy
  obtain ⟨y, hy⟩ : ∃ y, xs[1]? = some y := ⟨_, List.getElem?_eq_getElem (by rw [hlen]; decide)⟩
  rw [← hg 1 _ rfl] at hy
  simp [Value.cells, show Try.prog.cellsOf 3 = 1 from by kernel_rfl] at hy
  obtain ⟨t, e, _, w_t⟩ := DataW.trod_int Try.underlying3 hy
  simp at e
  subst e
  clear hy
  clear hg hlen hf hsz
  obtain ⟨cs, rfl, hsz⟩ := okWide_struct Try.underlying25 hv1
  rw [show Try.prog.cellsOf 25 = 2 from by kernel_rfl] at hsz
  obtain ⟨l⟩ := cs
  obtain ⟨wa_c, wb_c, rfl⟩ := list2 l (by simpa using hsz)
  obtain ⟨fuel, hf⟩ := h1
  obtain ⟨xs, n, _, _, _, hlen, hg⟩ := DataW.trod_struct Try.underlying25 hf
  obtain ⟨y, hy⟩ : ∃ y, xs[0]? = some y := ⟨_, List.getElem?_eq_getElem (by rw [hlen]; decide)⟩
  rw [← hg 0 _ rfl] at hy
  simp [Value.cells, show Try.prog.cellsOf 9 = 1 from by kernel_rfl] at hy
  obtain ⟨wa, e, _, w_wa⟩ := DataW.trod_string Try.underlying9 hy
  simp at e
  subst e
  clear hy
  obtain ⟨y, hy⟩ : ∃ y, xs[1]? = some y := ⟨_, List.getElem?_eq_getElem (by rw [hlen]; decide)⟩
  rw [← hg 1 _ rfl] at hy
  simp [Value.cells, show Try.prog.cellsOf 9 = 1 from by kernel_rfl] at hy
  obtain ⟨wb, e, _, w_wb⟩ := DataW.trod_string Try.underlying9 hy
  simp at e
  subst e
  clear hy
  clear hg hlen hf hsz
  obtain ⟨cs, rfl, hsz⟩ := okWide_struct Try.underlying23 hv0
  rw [show Try.prog.cellsOf 23 = 5 from by kernel_rfl] at hsz
  obtain ⟨l⟩ := cs
  obtain ⟨way_c, key_c, tok_c, x_c, y_c, rfl⟩ := list5 l (by simpa using hsz)
  obtain ⟨fuel, hf⟩ := h0
  obtain ⟨xs, n, _, _, _, hlen, hg⟩ := DataW.trod_struct Try.underlying23 hf
  obtain ⟨y, hy⟩ : ∃ y, xs[0]? = some y := ⟨_, List.getElem?_eq_getElem (by rw [hlen]; decide)⟩
  rw [← hg 0 _ rfl] at hy
  simp [Value.cells, show Try.prog.cellsOf 3 = 1 from by kernel_rfl] at hy
  obtain ⟨way, e, _, w_way⟩ := DataW.trod_int Try.underlying3 hy
  simp at e
  subst e
  clear hy
  obtain ⟨y, hy⟩ : ∃ y, xs[1]? = some y := ⟨_, List.getElem?_eq_getElem (by rw [hlen]; decide)⟩
  rw [← hg 1 _ rfl] at hy
  simp [Value.cells, show Try.prog.cellsOf 9 = 1 from by kernel_rfl] at hy
  obtain ⟨key, e, _, w_key⟩ := DataW.trod_string Try.underlying9 hy
  simp at e
  subst e
  clear hy
  obtain ⟨y, hy⟩ : ∃ y, xs[2]? = some y := ⟨_, List.getElem?_eq_getElem (by rw [hlen]; decide)⟩
  rw [← hg 2 _ rfl] at hy
  simp [Value.cells, show Try.prog.cellsOf 3 = 1 from by kernel_rfl] at hy
  obtain ⟨tok, e, _, w_tok⟩ := DataW.trod_int Try.underlying3 hy
  simp at e
  subst e
  clear hy
  obtain ⟨y, hy⟩ : ∃ y, xs[3]? = some y := ⟨_, List.getElem?_eq_getElem (by rw [hlen]; decide)⟩
  rw [← hg 3 _ rfl] at hy
  simp [Value.cells, show Try.prog.cellsOf 3 = 1 from by kernel_rfl] at hy
  obtain ⟨x, e, _, w_x⟩ := DataW.trod_int Try.underlying3 hy
  simp at e
  subst e
  clear hy
  obtain ⟨y, hy⟩ : ∃ y, xs[4]? = some y := ⟨_, List.getElem?_eq_getElem (by rw [hlen]; decide)⟩
  rw [← hg 4 _ rfl] at hy
  simp [Value.cells, show Try.prog.cellsOf 3 = 1 from by kernel_rfl] at hy
  obtain ⟨y, e, _, w_y⟩ := DataW.trod_int Try.underlying3 hy
  simp at e
  subst e
  clear hy
  clear hg hlen hf hsz
  obtain ⟨n, g, hn, hg, hb⟩ := open_multis hv3 h3
  exact joinNot_any n g hn way key tok x y wa wb f t v3 W hb
end Go.Proofs.Ytjlgcfcejdeecaa
