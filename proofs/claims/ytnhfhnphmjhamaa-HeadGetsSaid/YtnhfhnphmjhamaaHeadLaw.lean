/- The laws of layer 9 (head), walked. No conditions. -/
import Derived.Test.YtnhfhnphmjhamaaHeadP
namespace Go.Proofs.Ytnhfhnphmjhamaa
set_option linter.unusedVariables false
set_option linter.unusedSimpArgs false
open Go.RowKit Sym Go.ChangeShapes Go.WideShapes Go.ChangeMaps

def SHead4 : Tab := addS 44 tHeadGet SHead3
theorem SHead4_ok : TabOk Try.prog SHead4 := addS_ok SHead3_ok (by kernel_rfl) (by (intro xs p v h hp w; unfold tHeadGet at h; (split at h) <;> first | (cases h; done) | (simp only [Option.some.injEq, Prod.mk.injEq] at h; obtain ⟨rfl, rfl⟩ := h; exact ref09_get _ (hp _ (List.mem_cons_self ..)) w)))
set_option maxRecDepth 100000 in
theorem works09_run  : runV Try.prog (onlyS Try.prog SHead4) noL Try.f38 [] = T.need ((putB (Head.H.mk (0 : Int) (0 : Int) (4 : Int) (0 : Int) (0 : Int) (0 : Int) (3 : Int) false (7 : Int))).size + (ByteArray.mk #[(120 : UInt8)]).size ≤ (9223372036854775807 : Nat)) (T.need ((putB (Head.H.mk (0 : Int) (0 : Int) (4 : Int) (0 : Int) (0 : Int) (0 : Int) (3 : Int) false (7 : Int)) ++ ByteArray.mk #[(120 : UInt8)]).size ≤ maxLen) (T.ite true (T.ite true (T.ite true (T.ite true (T.ite true (T.ite true (T.leaf (Value.bool true)) (T.leaf (Value.bool false))) (T.leaf (Value.bool false))) (T.leaf (Value.bool false))) (T.leaf (Value.bool false))) (T.leaf (Value.bool false))) (T.leaf (Value.bool false)))) := by kernel_rfl
def tTrue : List Value → Option (List Prop × Value) | [] => some ([], .bool true) | _ => none
theorem works09 (w : World) : Calls Try.prog 38 #[] w fun e w' => e = .returned (.bool true) ∧ Below w.heap.size w w' := by
  refine calls_runV (onlyS_ok SHead4_ok) follows Try.func38 (by kernel_rfl) (by kernel_rfl) noL_ok (works09_run) ?_ w
  have e : (putB (Head.H.mk 0 0 4 0 0 0 3 false 7)).size = 12 := by kernel_rfl
  simp [T.ok, e, maxLen]
  try decide
def SHead5 : Tab := addS 38 tTrue SHead4
theorem SHead5_ok : TabOk Try.prog SHead5 := addS_ok SHead4_ok (by kernel_rfl) (by (intro xs p v h hp w; unfold tTrue at h; (split at h) <;> first | (cases h; done) | (simp only [Option.some.injEq, Prod.mk.injEq] at h; obtain ⟨rfl, rfl⟩ := h; exact works09 w)))
set_option maxRecDepth 100000 in
theorem headTells_run (kind : Int) (long : Bool) : runV Try.prog (onlyS Try.prog SHead5) noL Try.f9 [.int .i64 kind, .bool long] = T.ite false (T.leaf (Value.bool false)) (T.ite (decide (Head.acks kind = Head.acks kind)) (T.ite (decide (Head.bears kind = Head.bears kind)) (T.leaf (Value.bool (decide (Head.size kind long = Head.size kind long)))) (T.leaf (Value.bool false))) (T.leaf (Value.bool false))) := by kernel_rfl
theorem headTells_any (kind : Int) (long : Bool) (w : World) : Calls Try.prog 9 #[.int .i64 kind, .bool long] w fun e w' => e = .returned (.bool true) ∧ Below w.heap.size w w' := by
  refine calls_runV (onlyS_ok SHead5_ok) follows Try.func9 (by kernel_rfl) (by kernel_rfl) noL_ok (headTells_run kind long) ?_ w
  simp [T.ok]
set_option maxRecDepth 100000 in
theorem headTells_walk {H : Type} {enc : TypeId × Value → H} {base : Nat} {v0 v1 : Value} {d0 d1 : DataW H} {p0 p1 : List MemPlace} {W : World} (hv0 : Value.okWide Try.prog W .any base 3 v0)
    (h0 : DataW.Trod enc Try.prog W 0 (fun _ => true) true 3 v0 d0 p0) (hv1 : Value.okWide Try.prog W .any base 4 v1) (h1 : DataW.Trod enc Try.prog W 0 (fun _ => true) true 4 v1 d1 p1) :
    Calls Try.prog 9 #[v0, v1] W fun e w' => e = .returned (.bool true) ∧ Below W.heap.size W w' := by
  obtain ⟨k, rfl, rfl, rfl, wk⟩ := open_int Try.underlying3 hv0 h0
  obtain ⟨b, rfl, rfl, rfl⟩ := open_bool Try.underlying4 hv1 h1
  exact headTells_any k b W
set_option maxRecDepth 100000 in
theorem headGets_run (s : ByteArray) : runV Try.prog (onlyS Try.prog SHead5) noL Try.f8 [.string s] = T.ite false (T.leaf (Value.bool false)) (T.ite (decide ((↑s.size : Int) > (1000 : Int))) (T.leaf (Value.bool true)) (T.need (s.size ≤ maxLen) (T.need (s.size ≤ maxLen) (T.ite (!(decide ((get s).fst.1 = (get s).fst.1) && (decide ((get s).fst.2 = (get s).fst.2) && (decide ((get s).fst.3 = (get s).fst.3) && (decide ((get s).fst.4 = (get s).fst.4) && (decide ((get s).fst.5 = (get s).fst.5) && (decide ((get s).fst.6 = (get s).fst.6) && (decide ((get s).fst.7 = (get s).fst.7) && (decide ((get s).fst.8 = (get s).fst.8) && (decide ((get s).fst.9 = (get s).fst.9) && true)))))))))) (T.leaf (Value.bool false)) (T.ite (!decide ((get s).snd.1 = (get s).snd.1)) (T.leaf (Value.bool false)) (T.ite (!decide ((get s).snd.2 = (get s).snd.2)) (T.leaf (Value.bool false)) (T.ite (!decide ((get s).snd.2 = (0 : Int))) (T.leaf (Value.bool true)) (T.ite (decide (Head.check (Head.H.mk (get s).fst.1 (get s).fst.2 (get s).fst.3 (get s).fst.4 (get s).fst.5 (get s).fst.6 (get s).fst.7 (get s).fst.8 (get s).fst.9) = (0 : Int))) (T.need ((putB (Head.H.mk (get s).fst.src (get s).fst.dst (get s).fst.words (get s).fst.ccval (get s).fst.cover (get s).fst.sum (get s).fst.kind (get s).fst.long (get s).fst.seq)).size + (get s).snd.fst.size ≤ (9223372036854775807 : Nat)) (T.leaf (Value.bool (decide (putB (Head.H.mk (get s).fst.1 (get s).fst.2 (get s).fst.3 (get s).fst.4 (get s).fst.5 (get s).fst.6 (get s).fst.7 (get s).fst.8 (get s).fst.9) ++ (get s).snd.1 = s))))) (T.leaf (Value.bool false)))))))))) := by kernel_rfl
theorem headGets_any (s : ByteArray) (w : World) : Calls Try.prog 8 #[.string s] w fun e w' => e = .returned (.bool true) ∧ Below w.heap.size w w' := by
  refine calls_runV (onlyS_ok SHead5_ok) follows Try.func8 (by kernel_rfl) (by kernel_rfl) noL_ok (headGets_run s) ?_ w
  have hz : ∀ h : Head.H, (putB h).size ≤ 16 := putB_size
  have key := get_ok s
  have e : Head.H.mk (get s).fst.1 (get s).fst.2 (get s).fst.3 (get s).fst.4 (get s).fst.5 (get s).fst.6 (get s).fst.7 (get s).fst.8 (get s).fst.9 = (get s).1 := rfl
  by_cases hs : (s.size : Int) > 1000
  · simp [T.ok, hs]
  · have m : s.size ≤ maxLen := by unfold maxLen; omega
    by_cases h0 : (get s).2.2 = 0
    · obtain ⟨k1, k2⟩ := key h0
      have := hz (get s).1
      have e2 := congrArg ByteArray.size k2
      rw [ByteArray.size_append] at e2
      have m2 : (putB (get s).1).size + (get s).2.1.size ≤ 9223372036854775807 := by omega
      simp [T.ok, hs, h0, e, k1, k2, m, m2]
    · simp [T.ok, hs, h0, m]
set_option maxRecDepth 100000 in
theorem headGets_walk {H : Type} {enc : TypeId × Value → H} {base : Nat} {v0 : Value} {d0 : DataW H} {p0 : List MemPlace} {W : World} (hv0 : Value.okWide Try.prog W .any base 9 v0)
    (h0 : DataW.Trod enc Try.prog W 0 (fun _ => true) true 9 v0 d0 p0) :
    Calls Try.prog 8 #[v0] W fun e w' => e = .returned (.bool true) ∧ Below W.heap.size W w' := by
  obtain ⟨s, rfl, rfl, rfl, wk⟩ := open_string Try.underlying9 hv0 h0
  exact headGets_any s W
set_option maxRecDepth 100000 in
theorem headPuts_run (src dst words ccval cover sum kind seq : Int) (long : Bool) (more : ByteArray) : runV Try.prog (onlyS Try.prog SHead5) noL Try.f7 [.agg #[.int .i64 src, .int .i64 dst, .int .i64 words, .int .i64 ccval, .int .i64 cover, .int .i64 sum, .int .i64 kind, .bool long, .int .i64 seq], .string more] = T.ite false (T.leaf (Value.bool false)) (T.ite (decide ((↑more.size : Int) > (1000 : Int))) (T.leaf (Value.bool true)) (T.ite (!decide (putB (Head.H.mk src dst words ccval cover sum kind long seq) = putB (Head.H.mk src dst words ccval cover sum kind long seq))) (T.leaf (Value.bool false)) (T.ite (!decide (Head.check (Head.H.mk src dst words ccval cover sum kind long seq) = Head.check (Head.H.mk src dst words ccval cover sum kind long seq))) (T.leaf (Value.bool false)) (T.ite (!decide (Head.check (Head.H.mk src dst words ccval cover sum kind long seq) = Head.check (Head.H.mk src dst words ccval cover sum kind long seq))) (T.leaf (Value.bool false)) (T.need ((putB (Head.H.mk src dst words ccval cover sum kind long seq)).size + more.size ≤ (9223372036854775807 : Nat)) (T.need ((putB (Head.H.mk src dst words ccval cover sum kind long seq) ++ more).size ≤ maxLen) (T.ite (!decide (Head.check (Head.H.mk src dst words ccval cover sum kind long seq) = (0 : Int))) (T.leaf (Value.bool true)) (T.ite (decide ((get (putB (Head.H.mk src dst words ccval cover sum kind long seq) ++ more)).fst.1 = src) && (decide ((get (putB (Head.H.mk src dst words ccval cover sum kind long seq) ++ more)).fst.2 = dst) && (decide ((get (putB (Head.H.mk src dst words ccval cover sum kind long seq) ++ more)).fst.3 = words) && (decide ((get (putB (Head.H.mk src dst words ccval cover sum kind long seq) ++ more)).fst.4 = ccval) && (decide ((get (putB (Head.H.mk src dst words ccval cover sum kind long seq) ++ more)).fst.5 = cover) && (decide ((get (putB (Head.H.mk src dst words ccval cover sum kind long seq) ++ more)).fst.6 = sum) && (decide ((get (putB (Head.H.mk src dst words ccval cover sum kind long seq) ++ more)).fst.7 = kind) && (decide ((get (putB (Head.H.mk src dst words ccval cover sum kind long seq) ++ more)).fst.8 = long) && (decide ((get (putB (Head.H.mk src dst words ccval cover sum kind long seq) ++ more)).fst.9 = seq) && true))))))))) (T.ite (decide ((get (putB (Head.H.mk src dst words ccval cover sum kind long seq) ++ more)).snd.1 = more)) (T.leaf (Value.bool (decide ((get (putB (Head.H.mk src dst words ccval cover sum kind long seq) ++ more)).snd.2 = (0 : Int))))) (T.leaf (Value.bool false))) (T.leaf (Value.bool false)))))))))) := by kernel_rfl
theorem headPuts_any (src dst words ccval cover sum kind seq : Int) (long : Bool) (more : ByteArray) (w : World) : Calls Try.prog 7 #[.agg #[.int .i64 src, .int .i64 dst, .int .i64 words, .int .i64 ccval, .int .i64 cover, .int .i64 sum, .int .i64 kind, .bool long, .int .i64 seq], .string more] w fun e w' => e = .returned (.bool true) ∧ Below w.heap.size w w' := by
  refine calls_runV (onlyS_ok SHead5_ok) follows Try.func7 (by kernel_rfl) (by kernel_rfl) noL_ok (headPuts_run src dst words ccval cover sum kind seq long more) ?_ w
  have hz := putB_size (Head.H.mk src dst words ccval cover sum kind long seq)
  have key := put_get (Head.H.mk src dst words ccval cover sum kind long seq) more
  by_cases hs : (more.size : Int) > 1000
  · simp [T.ok, hs]
  · have m : (putB (Head.H.mk src dst words ccval cover sum kind long seq)).size + more.size ≤ 9223372036854775807 := by omega
    have m2 : (putB (Head.H.mk src dst words ccval cover sum kind long seq)).size + more.size ≤ maxLen := by unfold maxLen; omega
    by_cases h0 : Head.check (Head.H.mk src dst words ccval cover sum kind long seq) = 0
    · have := key h0
      simp [T.ok, hs, h0, this, m, m2]
    · simp [T.ok, hs, h0, m, m2]
set_option maxRecDepth 100000 in
theorem headPuts_walk {H : Type} {enc : TypeId × Value → H} {base : Nat} {v0 v1 : Value} {d0 d1 : DataW H} {p0 p1 : List MemPlace} {W : World} (hv0 : Value.okWide Try.prog W .any base 60 v0)
    (h0 : DataW.Trod enc Try.prog W 0 (fun _ => true) true 60 v0 d0 p0) (hv1 : Value.okWide Try.prog W .any base 9 v1) (h1 : DataW.Trod enc Try.prog W 0 (fun _ => true) true 9 v1 d1 p1) :
    Calls Try.prog 7 #[v0, v1] W fun e w' => e = .returned (.bool true) ∧ Below W.heap.size W w' := by
  obtain ⟨more, rfl, rfl, rfl, wm⟩ := open_string Try.underlying9 hv1 h1
  obtain ⟨cs, rfl, hsz⟩ := okWide_struct Try.underlying60 hv0
  rw [show Try.prog.cellsOf 60 = 9 from by kernel_rfl] at hsz
  obtain ⟨l⟩ := cs
  obtain ⟨src_c, dst_c, words_c, ccval_c, cover_c, sum_c, kind_c, long_c, seq_c, rfl⟩ := list9 l (by simpa using hsz)
  obtain ⟨fuel, hf⟩ := h0
  obtain ⟨xs, n, _, _, _, hlen, hg⟩ := DataW.trod_struct Try.underlying60 hf
  obtain ⟨y, hy⟩ : ∃ y, xs[0]? = some y := ⟨_, List.getElem?_eq_getElem (by rw [hlen]; decide)⟩
  rw [← hg 0 _ rfl] at hy
  simp [Value.cells, show Try.prog.cellsOf 3 = 1 from by kernel_rfl] at hy
  obtain ⟨src, e, _, w_src⟩ := DataW.trod_int Try.underlying3 hy
  simp at e
  subst e
  clear hy
  obtain ⟨y, hy⟩ : ∃ y, xs[1]? = some y := ⟨_, List.getElem?_eq_getElem (by rw [hlen]; decide)⟩
  rw [← hg 1 _ rfl] at hy
  simp [Value.cells, show Try.prog.cellsOf 3 = 1 from by kernel_rfl] at hy
  obtain ⟨dst, e, _, w_dst⟩ := DataW.trod_int Try.underlying3 hy
  simp at e
  subst e
  clear hy
  obtain ⟨y, hy⟩ : ∃ y, xs[2]? = some y := ⟨_, List.getElem?_eq_getElem (by rw [hlen]; decide)⟩
  rw [← hg 2 _ rfl] at hy
  simp [Value.cells, show Try.prog.cellsOf 3 = 1 from by kernel_rfl] at hy
  obtain ⟨words, e, _, w_words⟩ := DataW.trod_int Try.underlying3 hy
  simp at e
  subst e
  clear hy
  obtain ⟨y, hy⟩ : ∃ y, xs[3]? = some y := ⟨_, List.getElem?_eq_getElem (by rw [hlen]; decide)⟩
  rw [← hg 3 _ rfl] at hy
  simp [Value.cells, show Try.prog.cellsOf 3 = 1 from by kernel_rfl] at hy
  obtain ⟨ccval, e, _, w_ccval⟩ := DataW.trod_int Try.underlying3 hy
  simp at e
  subst e
  clear hy
  obtain ⟨y, hy⟩ : ∃ y, xs[4]? = some y := ⟨_, List.getElem?_eq_getElem (by rw [hlen]; decide)⟩
  rw [← hg 4 _ rfl] at hy
  simp [Value.cells, show Try.prog.cellsOf 3 = 1 from by kernel_rfl] at hy
  obtain ⟨cover, e, _, w_cover⟩ := DataW.trod_int Try.underlying3 hy
  simp at e
  subst e
  clear hy
  obtain ⟨y, hy⟩ : ∃ y, xs[5]? = some y := ⟨_, List.getElem?_eq_getElem (by rw [hlen]; decide)⟩
  rw [← hg 5 _ rfl] at hy
  simp [Value.cells, show Try.prog.cellsOf 3 = 1 from by kernel_rfl] at hy
  obtain ⟨sum, e, _, w_sum⟩ := DataW.trod_int Try.underlying3 hy
  simp at e
  subst e
  clear hy
  obtain ⟨y, hy⟩ : ∃ y, xs[6]? = some y := ⟨_, List.getElem?_eq_getElem (by rw [hlen]; decide)⟩
  rw [← hg 6 _ rfl] at hy
  simp [Value.cells, show Try.prog.cellsOf 3 = 1 from by kernel_rfl] at hy
  obtain ⟨kind, e, _, w_kind⟩ := DataW.trod_int Try.underlying3 hy
  simp at e
  subst e
  clear hy
  obtain ⟨y, hy⟩ : ∃ y, xs[7]? = some y := ⟨_, List.getElem?_eq_getElem (by rw [hlen]; decide)⟩
  rw [← hg 7 _ rfl] at hy
  simp [Value.cells, show Try.prog.cellsOf 4 = 1 from by kernel_rfl] at hy
  obtain ⟨long, e, _⟩ := DataW.trod_bool Try.underlying4 hy
  simp at e
  subst e
  clear hy
  obtain ⟨y, hy⟩ : ∃ y, xs[8]? = some y := ⟨_, List.getElem?_eq_getElem (by rw [hlen]; decide)⟩
  rw [← hg 8 _ rfl] at hy
  simp [Value.cells, show Try.prog.cellsOf 3 = 1 from by kernel_rfl] at hy
  obtain ⟨seq, e, _, w_seq⟩ := DataW.trod_int Try.underlying3 hy
  simp at e
  subst e
  clear hy
  clear hg hlen hf hsz
  exact headPuts_any src dst words ccval cover sum kind seq long more W
end Go.Proofs.Ytnhfhnphmjhamaa
