/- Who has the keys is let in: what is read of what is kept; two numbers as an argument. No conditions. -/
import Derived.Test.YtcighnkhfamloaaJoinMt
import Derived.OpenShut
namespace Go.Proofs.Ytcighnkhfamloaa
set_option linter.unusedVariables false
set_option linter.unusedSimpArgs false
open Go.RowKit Sym Sha Go.ChangeShapes Go.WideShapes Go.ChangeMaps

theorem put4_val (s : ByteArray) (a : Nat) (z : Int) (h0 : 0 ≤ z) (h1 : z < 4294967296) (hs : ((s.data.toList.drop a).take 4) = Oct.be (Oct.u64 z) 4) : valU (s.extract a (a + 4)) = z := by
  have e : (s.extract a (a + 4)).data.toList = (s.data.toList.drop a).take 4 := by simp [List.drop_take]
  have eu : Oct.u64 z = z.toNat := by unfold Oct.u64; rw [Int.emod_eq_of_lt h0 (by omega)]
  unfold valU
  rw [e, hs, val_be, eu]
  omega
def ex2 (a b : Int) : ByteArray := Oct.put (Oct.put ⟨#[2]⟩ a 4) b 4
theorem ex2_data (a b : Int) : (ex2 a b).data.toList = 2 :: (Oct.be (Oct.u64 a) 4 ++ Oct.be (Oct.u64 b) 4) := by
  unfold ex2
  rw [Oct.put_data, Oct.put_data]
  rfl
theorem ex2_size (a b : Int) : (ex2 a b).size = 9 := by unfold ex2; rw [Oct.put_size, Oct.put_size]; rfl
theorem ex2_byte (a b : Int) : byteAt (ex2 a b) 0 = 2 := by unfold byteAt; rw [ex2_data]; rfl
theorem ex2_E (a b : Int) : readE (ex2 a b) = 0 := by unfold readE; rw [ex2_size, ex2_byte]; decide
theorem ex2_W (a b : Int) : readW (ex2 a b) = 2 := by unfold readW; rw [ex2_E, ex2_byte]; rfl
theorem ex2_A (a b : Int) (h0 : 0 ≤ a) (h1 : a < 4294967296) : readA (ex2 a b) = a := by
  unfold readA
  rw [if_pos ⟨ex2_E a b, ex2_byte a b⟩]
  refine put4_val _ 1 a h0 h1 ?_
  rw [ex2_data, List.drop_succ_cons, List.drop_zero, List.take_left' (Oct.be_length _ _)]
theorem ex2_B (a b : Int) (h0 : 0 ≤ b) (h1 : b < 4294967296) : readB (ex2 a b) = b := by
  unfold readB
  rw [if_pos ⟨ex2_E a b, ex2_byte a b⟩]
  refine put4_val _ 5 b h0 h1 ?_
  rw [ex2_data, List.drop_succ_cons, List.drop_left' (Oct.be_length _ _), List.take_of_length_le (by rw [Oct.be_length]; decide)]
def ex1 (k : ByteArray) : ByteArray := ⟨#[1]⟩ ++ k
theorem ex1_data (k : ByteArray) : (ex1 k).data.toList = 1 :: k.data.toList := by unfold ex1; simp
theorem ex1_size (k : ByteArray) (h : k.size = 8) : (ex1 k).size = 9 := by unfold ex1; rw [ByteArray.size_append, h]; rfl
theorem ex1_byte (k : ByteArray) : byteAt (ex1 k) 0 = 1 := by unfold byteAt; rw [ex1_data]; rfl
theorem ex1_E (k : ByteArray) (h : k.size = 8) : readE (ex1 k) = 0 := by unfold readE; rw [ex1_size k h, ex1_byte]; decide
theorem ex1_W (k : ByteArray) (h : k.size = 8) : readW (ex1 k) = 1 := by unfold readW; rw [ex1_E k h, ex1_byte]; rfl
theorem ex1_K (k : ByteArray) (h : k.size = 8) : readK (ex1 k) = k := by
  unfold readK
  rw [if_pos ⟨ex1_E k h, ex1_byte k⟩]
  apply ByteArray.ext
  apply Array.toList_inj.1
  have hl : k.data.toList.length = 8 := by simpa using h
  have : ((ex1 k).extract 1 9).data.toList = ((ex1 k).data.toList.drop 1).take 8 := by simp [List.drop_take]
  rw [this, ex1_data, List.drop_succ_cons, List.drop_zero, List.take_of_length_le (by omega)]
theorem ex1_A (k : ByteArray) (h : k.size = 8) : readA (ex1 k) = 0 := by unfold readA; rw [ex1_byte, if_neg (fun e => absurd e.2 (by decide))]
theorem ex1_B (k : ByteArray) (h : k.size = 8) : readB (ex1 k) = 0 := by unfold readB; rw [ex1_byte, if_neg (fun e => absurd e.2 (by decide))]

set_option maxRecDepth 100000 in
theorem open_u32s {H : Type} {enc : TypeId × Value → H} {W : World} {base b0 : Nat} {r : Reach} {v : Value} {d : DataW H} {p : List MemPlace} {sp : Nat → Bool} (hv : Value.okWide Try.prog W r b0 47 v) (h : DataW.Trod enc Try.prog W base sp true 47 v d p) :
    ∃ a b : Int, v = .agg #[.int .u32 a, .int .u32 b] ∧ (0 ≤ a ∧ a < 4294967296) ∧ (0 ≤ b ∧ b < 4294967296) := by
  simp only [Value.okWide, Try.underlying47] at hv
  obtain ⟨cs, rfl, hsz, -⟩ := hv
  rw [show Try.prog.cellsOf 47 = 2 from by kernel_rfl] at hsz
  obtain ⟨fuel, hf⟩ := h
  obtain ⟨xs, m, _, _, _, hlen, hg⟩ := DataW.trod_array Try.underlying47 hf
  obtain ⟨l⟩ := cs
  match l, hsz with
  | [c0, c1], _ =>
    have ce : Try.prog.cellsOf 46 = 1 := by kernel_rfl
    obtain ⟨y0, hy0⟩ : ∃ y, xs[0]? = some y := ⟨_, List.getElem?_eq_getElem (by rw [hlen]; decide)⟩
    obtain ⟨y1, hy1⟩ : ∃ y, xs[1]? = some y := ⟨_, List.getElem?_eq_getElem (by rw [hlen]; decide)⟩
    rw [← hg 0 (by decide)] at hy0
    rw [← hg 1 (by decide)] at hy1
    simp [Value.cells, ce] at hy0 hy1
    obtain ⟨a, e0, _, w0⟩ := DataW.trod_int Try.underlying46 hy0
    obtain ⟨b, e1, _, w1⟩ := DataW.trod_int Try.underlying46 hy1
    simp at e0 e1
    subst e0 e1
    have b0 := bounds_u32 w0
    have b1 := bounds_u32 w1
    exact ⟨a, b, rfl, by omega, by omega⟩
end Go.Proofs.Ytcighnkhfamloaa
namespace Go.Proofs.Ytcighnkhfamloaa
open Go.RowKit Sym Sha Go.ChangeShapes Go.WideShapes Go.ChangeMaps

theorem ok_leaf {α : Type} {a : α} {Q : α → Prop} (h : Q a) : (T.leaf a).ok Q := h
theorem agree_of {t : T St} {s : St} (h : t.ok fun x => x = s) : agree t s := h
theorem lit2 : (ByteArray.mk (Array.mk ((Array.mk ([] : List UInt8)).toList ++ Oct.be 2 1))) = ⟨#[2]⟩ := by decide
theorem lit1 : (ByteArray.mk (Array.mk ((Array.mk ([] : List UInt8)).toList ++ Oct.be 1 1))) = ⟨#[1]⟩ := by decide
theorem chain7m {p : Prop} {inst : Decidable p} (h : p) : (match !(true && (true && (true && (true && (true && (true && (decide p && true))))))) with | true => (1 : Int) | false => 0) = 0 := by simp [h]
theorem mod3 (way : Int) : IntKind.i64.wrap ((IntKind.u64.wrap way).tmod 3) = (IntKind.u64.wrap way) % 3 := by
  have := u64_range way
  rw [Int.tmod_eq_emod_of_nonneg this.1, w64 _ (by omega) (by omega)]
theorem ext_list (s : ByteArray) (a b : Nat) : (s.extract a b).data.toList = (s.data.toList.drop a).take (b - a) := by simp [List.drop_take]
theorem mem_nil (w : World) : Mem w [] [] [] w :=
  ⟨⟨rfl, fun k x u h => by simp at h, fun k j b ⟨x, u, h, _⟩ => by simp at h, fun k j b ⟨x, u, h, _⟩ => by simp at h⟩, .refl _ _, fun k b ⟨x, u, h, _⟩ => by simp at h⟩
theorem ext8 (a b : ByteArray) (ha : a.size = 8) (hb : b.size = 8) : (a ++ b).extract 8 16 = b ∧ (a ++ b).extract 0 8 = a ∧ (a ++ b).size = 16 := by
  have hl : a.data.toList.length = 8 := by simpa using ha
  have hm : b.data.toList.length = 8 := by simpa using hb
  have e : (a ++ b).data.toList = a.data.toList ++ b.data.toList := by simp
  refine ⟨?_, ?_, by rw [ByteArray.size_append]; omega⟩
  · apply ByteArray.ext; apply Array.toList_inj.1
    rw [ext_list, e, List.drop_left' hl, List.take_of_length_le (by omega)]
  · apply ByteArray.ext; apply Array.toList_inj.1
    rw [ext_list, e, List.drop_zero, List.take_left' hl]
abbrev hMeet (xe : XL) (x : XS) := bothM_ok (M := ms29) (X := []) (fs := 14 :: fsV) (SMeet_ok xe) (FMeet_ok (SMeet_ok xe) x)
end Go.Proofs.Ytcighnkhfamloaa
namespace Go.Proofs.Ytcighnkhfamloaa
open Go.RowKit Sym Sha Go.ChangeShapes Go.WideShapes Go.ChangeMaps

set_option maxRecDepth 100000 in
set_option maxHeartbeats 10000000 in
theorem meetP (wa wb : ByteArray) (f t n0 n1 way : Int) (deaf : Bool) (hw : IntKind.i64.wrap ((IntKind.u64.wrap way).tmod 3) = 0) (w : World) : Calls Try.prog 4 #[.agg #[.string wa, .string wb], .agg #[.int .i64 f, .int .i64 t], .agg #[.int .u32 n0, .int .u32 n1], .int .i64 way, .bool deaf] w fun e w' => e = .returned (.bool true) ∧ Below w.heap.size w w' := by
  refine calls_runO (bothM_ok (SMeet_ok xe0) (FMeet_ok (SMeet_ok xe0) xPln)) follows Try.func4 (by kernel_rfl) (lexAllF_ok (by kernel_rfl)) (noloops (by kernel_rfl)) (meetP_run tagP tokP wa wb f t n0 n1 way deaf) ?_ (mem_nil w) rfl
  generalize tagP = tg
  generalize tokP = tk
  repeat' (first | (with_reducible refine ok_need ?_ ?_) | (with_reducible refine ok_ite ?_ ?_; all_goals intro h) | (with_reducible refine agree_of ?_) | (with_reducible refine ok_leaf ?_))
  all_goals try with_reducible rfl
  all_goals try with_reducible exact hw
  all_goals first | (cases h; done) | skip
  all_goals try (simp only [decide_eq_false_iff_not] at *; omega)
  all_goals first | exact ⟨by decide, by decide, by decide⟩ | exact ⟨by decide, rowMu_ok (by kernel_rfl), by kernel_rfl⟩
end Go.Proofs.Ytcighnkhfamloaa
namespace Go.Proofs.Ytcighnkhfamloaa
open Go.RowKit Sym Sha Go.ChangeShapes Go.WideShapes Go.ChangeMaps

set_option maxRecDepth 100000 in
set_option maxHeartbeats 10000000 in
theorem meetD (wa wb : ByteArray) (f t n0 n1 way : Int) (hw : IntKind.i64.wrap ((IntKind.u64.wrap way).tmod 3) = 1) (w : World) : Calls Try.prog 4 #[.agg #[.string wa, .string wb], .agg #[.int .i64 f, .int .i64 t], .agg #[.int .u32 n0, .int .u32 n1], .int .i64 way, .bool true] w fun e w' => e = .returned (.bool true) ∧ Below w.heap.size w w' := by
  refine calls_runO (bothM_ok (SMeet_ok xe0) (FMeet_ok (SMeet_ok xe0) xDeaf)) follows Try.func4 (by kernel_rfl) (lexAllF_ok (by kernel_rfl)) (noloops (by kernel_rfl)) (meetD_run tagP tokP wa wb f t n0 n1 way) ?_ (mem_nil w) rfl
  generalize tagP = tg
  generalize tokP = tk
  repeat' (first | (with_reducible refine ok_need ?_ ?_) | (with_reducible refine ok_ite ?_ ?_; all_goals intro h) | (with_reducible refine agree_of ?_) | (with_reducible refine ok_leaf ?_))
  all_goals try with_reducible rfl
  all_goals try with_reducible exact hw
  all_goals first | (cases h; done) | skip
  all_goals try (simp only [decide_eq_false_iff_not] at *; omega)
  all_goals first | exact ⟨by decide, by decide, by decide⟩ | exact ⟨by decide, rowMu_ok (by kernel_rfl), by kernel_rfl⟩ | exact ⟨by decide, rowMu_ok (by kernel_rfl), by decide, by kernel_rfl⟩ 
end Go.Proofs.Ytcighnkhfamloaa
namespace Go.Proofs.Ytcighnkhfamloaa
open Go.RowKit Sym Sha Go.ChangeShapes Go.WideShapes Go.ChangeMaps

set_option maxRecDepth 100000 in
set_option maxHeartbeats 10000000 in
theorem meetF (wa wb : ByteArray) (f t n0 n1 way : Int) (hw : IntKind.i64.wrap ((IntKind.u64.wrap way).tmod 3) = 1) (w : World) : Calls Try.prog 4 #[.agg #[.string wa, .string wb], .agg #[.int .i64 f, .int .i64 t], .agg #[.int .u32 n0, .int .u32 n1], .int .i64 way, .bool false] w fun e w' => e = .returned (.bool true) ∧ Below w.heap.size w w' := by
  refine calls_runO (bothM_ok (SMeet_ok xe1) (FMeet_ok (SMeet_ok xe1) xFst)) follows Try.func4 (by kernel_rfl) (lexAllF_ok (by kernel_rfl)) (noloops (by kernel_rfl)) (meetF_run tagP tokP wa wb f t n0 n1 way) ?_ (mem_nil w) rfl
  generalize tagP = tg
  generalize tokP = tk
  have ha := p8_size wa
  have hb := p8_size wb
  obtain ⟨x1, x2, x3⟩ := ext8 _ _ ha hb
  obtain ⟨k1, k2, k3⟩ := kAB ha hb
  have e1 : (ByteArray.mk (Array.mk (([] : List UInt8) ++ Oct.be 1 1)) ++ p8 wb : ByteArray) = ex1 (p8 wb) := rfl
  have z8 : (((p8 wb).size : Nat) : Int) = 8 := by omega
  have e5 : ((8 : Int).toNat) = 8 := rfl
  have x4 : (p8 wa ++ p8 wb).extract 8 (Int.toNat 16) = p8 wb := x1
  have q1 : ¬ ByteArray.mk (Array.mk []) = p8 wa := fun h => p8_ne wa h.symm
  have r1 := ex1_E _ hb
  have r2 := ex1_W _ hb
  have r3 := ex1_K _ hb
  have r4 := ex1_size _ hb
  have z16 : (((p8 wa ++ p8 wb).size : Nat) : Int) = 16 := by omega
  have z16' : (((p8 wa ++ p8 wb).size : Nat) : Int).toNat = 16 := by omega
  simp only [e1, r1, r2, r3, r4, z16, z16', z8, x1, x2, x4, k1, k2, k3, decide_true, Bool.not_true, Bool.and_true]
  repeat' (first | (with_reducible refine ok_need ?_ ?_) | (with_reducible refine ok_ite ?_ ?_; all_goals intro h; all_goals (first | (simp only [Bool.false_eq_true, Bool.true_eq_false] at h; done) | skip)) | (with_reducible refine agree_of ?_) | (with_reducible refine ok_leaf ?_))
  all_goals try with_reducible rfl
  all_goals try with_reducible exact hw
  all_goals first | (simp only [Bool.false_eq_true, Bool.true_eq_false] at h; done) | skip
  all_goals try (simp only [decide_eq_false_iff_not] at *; omega)
  all_goals first | exact trivial | exact ⟨by decide, by decide, by decide⟩ | (with_reducible exact ⟨by decide, rowMu_ok (by kernel_rfl), by decide, by kernel_rfl⟩) | (with_reducible exact ⟨by decide, rowMu_ok (by kernel_rfl), by kernel_rfl⟩) | skip
end Go.Proofs.Ytcighnkhfamloaa
namespace Go.Proofs.Ytcighnkhfamloaa
open Go.RowKit Sym Sha Go.ChangeShapes Go.WideShapes Go.ChangeMaps

set_option maxRecDepth 100000 in
set_option maxHeartbeats 10000000 in
theorem meetM (wa wb : ByteArray) (f t n0 n1 way : Int) (deaf : Bool) (hw : IntKind.i64.wrap ((IntKind.u64.wrap way).tmod 3) = 2) (m0 : 0 ≤ n0 ∧ n0 < 4294967296) (m1 : 0 ≤ n1 ∧ n1 < 4294967296) (w : World) : Calls Try.prog 4 #[.agg #[.string wa, .string wb], .agg #[.int .i64 f, .int .i64 t], .agg #[.int .u32 n0, .int .u32 n1], .int .i64 way, .bool deaf] w fun e w' => e = .returned (.bool true) ∧ Below w.heap.size w w' := by
  refine calls_runO (bothM_ok (SMeet_ok xe2) (FMeet_ok (SMeet_ok xe2) xMore)) follows Try.func4 (by kernel_rfl) (lexAllF_ok (by kernel_rfl)) (noloops (by kernel_rfl)) (meetM_run tagP tokP wa wb f t n0 n1 way deaf) ?_ (mem_nil w) rfl
  generalize tagP = tg
  generalize tokP = tk
  have ha := p8_size wa
  have hb := p8_size wb
  have w0 : IntKind.i64.wrap n0 = n0 := w64 _ (by omega) (by omega)
  have w1 : IntKind.i64.wrap n1 = n1 := w64 _ (by omega) (by omega)
  have e1 : Oct.put (Oct.put (ByteArray.mk (Array.mk (([] : List UInt8) ++ Oct.be 2 1))) n0 4) n1 4 = ex2 n0 n1 := rfl
  have r1 := ex2_E n0 n1
  have r2 := ex2_W n0 n1
  have r3 := ex2_A n0 n1 m0.1 m0.2
  have r4 := ex2_B n0 n1 m1.1 m1.2
  have r5 := ex2_size n0 n1
  have z5 : (Oct.put (ByteArray.mk (Array.mk (([] : List UInt8) ++ Oct.be 2 1))) n0 4).size = 5 := by rw [Oct.put_size]; rfl
  have q1 : ¬ ByteArray.mk (Array.mk []) = p8 wa := fun h => p8_ne wa h.symm
  simp only [w0, w1, e1, r1, r2, r3, r4, r5, z5, decide_true, Bool.not_true, Bool.and_true]
  repeat' (first | (with_reducible refine ok_need ?_ ?_) | (with_reducible refine ok_ite ?_ ?_; all_goals intro h; all_goals (first | (simp only [Bool.false_eq_true, Bool.true_eq_false] at h; done) | skip)) | (with_reducible refine agree_of ?_) | (with_reducible refine ok_leaf ?_))
  all_goals try with_reducible rfl
  all_goals try with_reducible exact hw
  all_goals try (simp only [decide_eq_false_iff_not] at *; omega)
  all_goals first | exact trivial | exact ⟨by decide, by decide, by decide⟩ | (with_reducible exact ⟨by decide, rowMu_ok (by kernel_rfl), by decide, by kernel_rfl⟩) | (with_reducible exact ⟨by decide, rowMu_ok (by kernel_rfl), by kernel_rfl⟩) | skip
end Go.Proofs.Ytcighnkhfamloaa
namespace Go.Proofs.Ytcighnkhfamloaa
open Go.RowKit Sym Sha Go.ChangeShapes Go.WideShapes Go.ChangeMaps

theorem joinMeet_any (wa wb : ByteArray) (f t n0 n1 way : Int) (deaf : Bool) (m0 : 0 ≤ n0 ∧ n0 < 4294967296) (m1 : 0 ≤ n1 ∧ n1 < 4294967296) (w : World) : Calls Try.prog 4 #[.agg #[.string wa, .string wb], .agg #[.int .i64 f, .int .i64 t], .agg #[.int .u32 n0, .int .u32 n1], .int .i64 way, .bool deaf] w fun e w' => e = .returned (.bool true) ∧ Below w.heap.size w w' := by
  have hm := mod3 way
  have hr := u64_range way
  have h3 : IntKind.u64.wrap way % 3 = 0 ∨ IntKind.u64.wrap way % 3 = 1 ∨ IntKind.u64.wrap way % 3 = 2 := by omega
  rcases h3 with h | h | h
  · exact meetP wa wb f t n0 n1 way deaf (hm.trans h) w
  · cases deaf
    · exact meetF wa wb f t n0 n1 way (hm.trans h) w
    · exact meetD wa wb f t n0 n1 way (hm.trans h) w
  · exact meetM wa wb f t n0 n1 way deaf (hm.trans h) m0 m1 w
set_option maxRecDepth 100000 in
theorem joinMeet_walk {H : Type} {enc : TypeId × Value → H} {base : Nat} {v0 v1 v2 v3 v4 : Value} {d0 d1 d2 d3 d4 : DataW H} {p0 p1 p2 p3 p4 : List MemPlace} {W : World}
    (hv0 : Value.okWide Try.prog W .any base 28 v0) (h0 : DataW.Trod enc Try.prog W 0 (fun _ => true) true 28 v0 d0 p0)
    (hv1 : Value.okWide Try.prog W .any base 45 v1) (h1 : DataW.Trod enc Try.prog W 0 (fun _ => true) true 45 v1 d1 p1)
    (hv2 : Value.okWide Try.prog W .any base 47 v2) (h2 : DataW.Trod enc Try.prog W 0 (fun _ => true) true 47 v2 d2 p2)
    (hv3 : Value.okWide Try.prog W .any base 3 v3) (h3 : DataW.Trod enc Try.prog W 0 (fun _ => true) true 3 v3 d3 p3)
    (hv4 : Value.okWide Try.prog W .any base 4 v4) (h4 : DataW.Trod enc Try.prog W 0 (fun _ => true) true 4 v4 d4 p4) :
    Calls Try.prog 4 #[v0, v1, v2, v3, v4] W fun e w' => e = .returned (.bool true) ∧ Below W.heap.size W w' := by
  obtain ⟨cs, rfl, hsz⟩ := okWide_struct Try.underlying45 hv1
  rw [show Try.prog.cellsOf 45 = 2 from by kernel_rfl] at hsz
  obtain ⟨l⟩ := cs
  obtain ⟨f_c, t_c, rfl⟩ := list2 l (by simpa using hsz)
  obtain ⟨fuel, hf⟩ := h1
  obtain ⟨xs, n, _, _, _, hlen, hg⟩ := DataW.trod_struct Try.underlying45 hf
  obtain ⟨y, hy⟩ : ∃ y, xs[0]? = some y := ⟨_, List.getElem?_eq_getElem (by rw [hlen]; decide)⟩
  rw [← hg 0 _ rfl] at hy
  simp [Value.cells, show Try.prog.cellsOf 3 = 1 from by kernel_rfl] at hy
  obtain ⟨f, e, _, w_f⟩ := DataW.trod_int Try.underlying3 hy
  simp at e
  subst e
  clear hy
  obtain ⟨y, hy⟩ : ∃ y, xs[1]? = some y := ⟨_, List.getElem?_eq_getElem (by rw [hlen]; decide)⟩
  rw [← hg 1 _ rfl] at hy
  simp [Value.cells, show Try.prog.cellsOf 3 = 1 from by kernel_rfl] at hy
  obtain ⟨t, e, _, w_t⟩ := DataW.trod_int Try.underlying3 hy
  simp at e
  subst e
  clear hy
  clear hg hlen hf hsz
  obtain ⟨cs, rfl, hsz⟩ := okWide_struct Try.underlying28 hv0
  rw [show Try.prog.cellsOf 28 = 2 from by kernel_rfl] at hsz
  obtain ⟨l⟩ := cs
  obtain ⟨wa_c, wb_c, rfl⟩ := list2 l (by simpa using hsz)
  obtain ⟨fuel, hf⟩ := h0
  obtain ⟨xs, n, _, _, _, hlen, hg⟩ := DataW.trod_struct Try.underlying28 hf
  obtain ⟨y, hy⟩ : ∃ y, xs[0]? = some y := ⟨_, List.getElem?_eq_getElem (by rw [hlen]; decide)⟩
  rw [← hg 0 _ rfl] at hy
  simp [Value.cells, show Try.prog.cellsOf 9 = 1 from by kernel_rfl] at hy
  obtain ⟨wa, e, _, w_wa⟩ := DataW.trod_string Try.underlying9 hy
  simp at e
  subst e
  clear hy
  obtain ⟨y, hy⟩ : ∃ y, xs[1]? = some y := ⟨_, List.getElem?_eq_getElem (by rw [hlen]; decide)⟩
  rw [← hg 1 _ rfl] at hy
  simp [Value.cells, show Try.prog.cellsOf 9 = 1 from by kernel_rfl] at hy
  obtain ⟨wb, e, _, w_wb⟩ := DataW.trod_string Try.underlying9 hy
  simp at e
  subst e
  clear hy
  clear hg hlen hf hsz
  obtain ⟨n0, n1, rfl, m0, m1⟩ := open_u32s hv2 h2
  obtain ⟨way, rfl, rfl, rfl, ww⟩ := open_int Try.underlying3 hv3 h3
  obtain ⟨deaf, rfl⟩ := okWide_bool Try.underlying4 hv4
  exact joinMeet_any wa wb f t n0 n1 way deaf m0 m1 W
end Go.Proofs.Ytcighnkhfamloaa
