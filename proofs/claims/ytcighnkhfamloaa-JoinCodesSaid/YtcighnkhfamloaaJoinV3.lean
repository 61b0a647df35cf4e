/- Joining: what is asked, and kept: the law, walked. No conditions. -/
import Derived.Test.YtcighnkhfamloaaJoinV2
namespace Go.Proofs.Ytcighnkhfamloaa
set_option linter.unusedVariables false
set_option linter.unusedSimpArgs false
open Go.RowKit Sym Sha Go.ChangeShapes Go.WideShapes Go.ChangeMaps

theorem CCodes_ok : CfgOk Try.prog (CCodes Try.prog Try.f21 Try.f22 Try.f20) := both_ok SCodes_ok FCodes_ok
set_option maxRecDepth 100000 in
theorem joinCodes_any (n : Nat) (g : Nat → Mu) (hn : n ≤ maxLen) (way : Int) (key : ByteArray) (tok x y : Int) (s : ByteArray) (addr : Int) (v : Value) (w : World) (hv : ∀ B, BlkSat B w v (.row n 7 fun i j => (g i).c j)) :
    Calls Try.prog 3 #[.agg #[.int .i64 way, .string key, .int .i64 tok, .int .i64 x, .int .i64 y], .string s, .int .i64 addr, v] w fun e w' => e = .returned (.bool true) ∧ Below w.heap.size w w' := by
  refine calls_runO CCodes_ok follows Try.func3 (by kernel_rfl) (lexAllF_ok (by kernel_rfl)) (noloops (by kernel_rfl)) (codes_run n g way key tok x y s addr) ?_ (mem_row (hv [v])) rfl
  have hall := allMu_c n g
  have hP : MuP n fun i j => (g i).c j := ⟨hn, hall⟩
  have hmu : (muF fun i j => (g i).c j) = g := rfl
  simp only [hmu]
  refine ⟨(fun h => by cases h), fun _ => ⟨hall, fun _ => rfl, fun _ => ⟨fun _ => rfl, fun hk => ⟨fun _ => rfl, fun _ => ⟨fun _ => rfl, fun _ => ⟨fun _ => rfl, fun hs => ?_⟩⟩⟩⟩⟩⟩
  have hk := of_decide_eq_false hk
  have hs := of_decide_eq_false hs
  have s1 : s.size ≤ 1000000 := by omega
  have k1 : key.size ≤ 1000000 := by omega
  have kR : (readK s).size ≤ 1000000 := by
    unfold readK
    split
    · rw [ByteArray.size_extract]; omega
    · exact Nat.zero_le _
  by_cases hE : readE s = 0
  · have hx := extra_read s hE
    by_cases w1 : way = 1
    · subst w1
      simp [T.ok, s1, k1, kR, hE, hx, hP]
    · by_cases w2 : way = 2
      · subst w2
        simp [T.ok, s1, k1, kR, hE, hx, hP]
      · simp [T.ok, s1, k1, kR, hE, hx, hP, w1, w2]
  · by_cases w1 : way = 1
    · subst w1
      simp [T.ok, s1, k1, kR, hE, hP]
    · by_cases w2 : way = 2
      · subst w2
        simp [T.ok, s1, k1, kR, hE, hP]
      · simp [T.ok, s1, k1, kR, hE, hP, w1, w2]
set_option maxRecDepth 100000 in
theorem joinCodes_walk {H : Type} {enc : TypeId × Value → H} {base : Nat} {v0 v1 v2 v3 : Value} {d0 d1 d2 d3 : DataW H} {p0 p1 p2 p3 : List MemPlace} {W : World}
    (hv0 : Value.okWide Try.prog W .any base 23 v0) (h0 : DataW.Trod enc Try.prog W 0 (fun _ => true) true 23 v0 d0 p0)
    (hv1 : Value.okWide Try.prog W .any base 9 v1) (h1 : DataW.Trod enc Try.prog W 0 (fun _ => true) true 9 v1 d1 p1)
    (hv2 : Value.okWide Try.prog W .any base 3 v2) (h2 : DataW.Trod enc Try.prog W 0 (fun _ => true) true 3 v2 d2 p2)
    (hv3 : Value.okWide Try.prog W .any base 24 v3) (h3 : DataW.Trod enc Try.prog W 0 (fun _ => true) true 24 v3 d3 p3) :
    Calls Try.prog 3 #[v0, v1, v2, v3] W fun e w' => e = .returned (.bool true) ∧ Below W.heap.size W w' := by
  obtain ⟨cs, rfl, hsz⟩ := okWide_struct Try.underlying23 hv0
  rw [show Try.prog.cellsOf 23 = 5 from by kernel_rfl] at hsz
  obtain ⟨l⟩ := cs
  obtain ⟨way_c, key_c, tok_c, x_c, y_c, rfl⟩ := list5 l (by simpa using hsz)
  obtain ⟨fuel, hf⟩ := h0
  obtain ⟨xs, n, _, _, _, hlen, hg⟩ := DataW.trod_struct Try.underlying23 hf
  obtain ⟨y, hy⟩ : ∃ y, xs[0]? = some y := ⟨_, List.getElem?_eq_getElem (by rw [hlen]; decide)⟩
  rw [← hg 0 _ rfl] at hy
  simp [Value.cells, show Try.prog.cellsOf 3 = 1 from by kernel_rfl] at hy
  obtain ⟨way, e, _, w_way⟩ := DataW.trod_int Try.underlying3 hy
  simp at e
  subst e
  clear hy
  obtain ⟨y, hy⟩ : ∃ y, xs[1]? = some y := ⟨_, List.getElem?_eq_getElem (by rw [hlen]; decide)⟩
  rw [← hg 1 _ rfl] at hy
  simp [Value.cells, show Try.prog.cellsOf 9 = 1 from by kernel_rfl] at hy
  obtain ⟨key, e, _, w_key⟩ := DataW.trod_string Try.underlying9 hy
  simp at e
  subst e
  clear hy
  obtain ⟨y, hy⟩ : ∃ y, xs[2]? = some y := ⟨_, List.getElem?_eq_getElem (by rw [hlen]; decide)⟩
  rw [← hg 2 _ rfl] at hy
  simp [Value.cells, show Try.prog.cellsOf 3 = 1 from by kernel_rfl] at hy
  obtain ⟨tok, e, _, w_tok⟩ := DataW.trod_int Try.underlying3 hy
  simp at e
  subst e
  clear hy
  obtain ⟨y, hy⟩ : ∃ y, xs[3]? = some y := ⟨_, List.getElem?_eq_getElem (by rw [hlen]; decide)⟩
  rw [← hg 3 _ rfl] at hy
  simp [Value.cells, show Try.prog.cellsOf 3 = 1 from by kernel_rfl] at hy
  obtain ⟨x, e, _, w_x⟩ := DataW.trod_int Try.underlying3 hy
  simp at e
  subst e
  clear hy
  obtain ⟨y, hy⟩ : ∃ y, xs[4]? = some y := ⟨_, List.getElem?_eq_getElem (by rw [hlen]; decide)⟩
  rw [← hg 4 _ rfl] at hy
  simp [Value.cells, show Try.prog.cellsOf 3 = 1 from by kernel_rfl] at hy
  obtain ⟨y, e, _, w_y⟩ := DataW.trod_int Try.underlying3 hy
  simp at e
  subst e
  clear hy
  clear hg hlen hf hsz
  obtain ⟨s, rfl, rfl, rfl, wk⟩ := open_string Try.underlying9 hv1 h1
  obtain ⟨addr, rfl, rfl, rfl, wa⟩ := open_int Try.underlying3 hv2 h2
  obtain ⟨n, g, hn, hg, hb⟩ := open_multis hv3 h3
  exact joinCodes_any n g hn way key tok x y s addr v3 W hb
end Go.Proofs.Ytcighnkhfamloaa
