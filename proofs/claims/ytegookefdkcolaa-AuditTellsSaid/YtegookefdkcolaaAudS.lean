/- Audit: a view as an argument; the law's walk. No conditions. -/
import Derived.Test.YtegookefdkcolaaAudR
namespace Go.Proofs.Ytegookefdkcolaa
set_option linter.unusedVariables false
set_option linter.unusedSimpArgs false
open Go.RowKit Sym Go.ChangeShapes Go.WideShapes Go.ChangeMaps Go.Deep

theorem slice_cell {H : Type} {enc : TypeId × Value → H} {W : World} {base fuel : Nat} {sp : Nat → Bool} {e t : TypeId} {c : Value} {y : DataW H × List MemPlace} (ht : Try.prog.underlying t = some (.slice e)) (hy : DataW.trod enc Try.prog W base sp true fuel t [c] = some y) : (∃ a len cap, c = .slice a len cap) ∧ DataW.Trod enc Try.prog W base sp true t c y.1 y.2 := by
  have h : ∃ a len cap, c = .slice a len cap := by
    rcases open_slice ht hy with ⟨h0, _⟩ | ⟨a, len, cap, m, k, D, Pl, h0, -⟩
    · simp only [List.cons.injEq, and_true] at h0; exact ⟨_, _, _, h0⟩
    · simp only [List.cons.injEq, and_true] at h0; exact ⟨_, _, _, h0⟩
  obtain ⟨a, len, cap, rfl⟩ := h
  exact ⟨⟨_, _, _, rfl⟩, fuel, hy⟩
theorem open_ints_of {H : Type} {enc : TypeId × Value → H} {W : World} {base : Nat} {v : Value} {d : DataW H} {p : List MemPlace} {sp : Nat → Bool} (hv : ∃ a len cap, v = .slice a len cap) (h : DataW.Trod enc Try.prog W base sp true 23 v d p) :
    ∃ (n : Nat) (g : Nat → Nat → Value), AllI n g ∧ ∀ B, BlkSat B W v (.row n 1 g) := by
  obtain ⟨len, f, h1, h2, h3⟩ := open_rows_of 1 (by kernel_rfl) (by omega) Try.underlying23 hv h
  refine ⟨len, f, fun i hi => ?_, row_of h1⟩
  obtain ⟨fuel, x, hx⟩ := h3 i hi
  obtain ⟨z, e, _⟩ := DataW.trod_int Try.underlying3 hx
  simp [List.range_succ] at e
  show f i 0 = .int .i64 (intV (f i 0))
  rw [e]; rfl
set_option maxRecDepth 100000 in
theorem open_pts_of {H : Type} {enc : TypeId × Value → H} {W : World} {base : Nat} {v : Value} {d : DataW H} {p : List MemPlace} {sp : Nat → Bool} (hv : ∃ a len cap, v = .slice a len cap) (h : DataW.Trod enc Try.prog W base sp true 22 v d p) :
    ∃ (n : Nat) (g : Nat → Nat → Value), AllPt n g ∧ ∀ B, BlkSat B W v (.row n 9 g) := by
  obtain ⟨len, f, h1, h2, h3⟩ := open_rows_of 9 (by kernel_rfl) (by omega) Try.underlying22 hv h
  refine ⟨len, f, fun i j hi hj => ?_, row_of h1⟩
  obtain ⟨fuel, x, hx⟩ := h3 i hi
  obtain ⟨xs, n, _, _, _, hlen, hg⟩ := DataW.trod_struct Try.underlying45 hx
  have ci : Try.prog.cellsOf 3 = 1 := by kernel_rfl
  obtain ⟨u0, hu0⟩ : ∃ u, xs[0]? = some u := ⟨_, List.getElem?_eq_getElem (by rw [hlen]; decide)⟩
  rw [← hg 0 _ rfl] at hu0
  simp [List.range_succ, ci] at hu0
  obtain ⟨z0, e0, _⟩ := DataW.trod_int Try.underlying3 hu0
  simp at e0
  obtain ⟨u1, hu1⟩ : ∃ u, xs[1]? = some u := ⟨_, List.getElem?_eq_getElem (by rw [hlen]; decide)⟩
  rw [← hg 1 _ rfl] at hu1
  simp [List.range_succ, ci] at hu1
  obtain ⟨z1, e1, _⟩ := DataW.trod_int Try.underlying3 hu1
  simp at e1
  obtain ⟨u2, hu2⟩ : ∃ u, xs[2]? = some u := ⟨_, List.getElem?_eq_getElem (by rw [hlen]; decide)⟩
  rw [← hg 2 _ rfl] at hu2
  simp [List.range_succ, ci] at hu2
  obtain ⟨z2, e2, _⟩ := DataW.trod_int Try.underlying3 hu2
  simp at e2
  obtain ⟨u3, hu3⟩ : ∃ u, xs[3]? = some u := ⟨_, List.getElem?_eq_getElem (by rw [hlen]; decide)⟩
  rw [← hg 3 _ rfl] at hu3
  simp [List.range_succ, ci] at hu3
  obtain ⟨z3, e3, _⟩ := DataW.trod_int Try.underlying3 hu3
  simp at e3
  obtain ⟨u4, hu4⟩ : ∃ u, xs[4]? = some u := ⟨_, List.getElem?_eq_getElem (by rw [hlen]; decide)⟩
  rw [← hg 4 _ rfl] at hu4
  simp [List.range_succ, ci] at hu4
  obtain ⟨z4, e4, _⟩ := DataW.trod_int Try.underlying3 hu4
  simp at e4
  obtain ⟨u5, hu5⟩ : ∃ u, xs[5]? = some u := ⟨_, List.getElem?_eq_getElem (by rw [hlen]; decide)⟩
  rw [← hg 5 _ rfl] at hu5
  simp [List.range_succ, ci] at hu5
  obtain ⟨z5, e5, _⟩ := DataW.trod_int Try.underlying3 hu5
  simp at e5
  obtain ⟨u6, hu6⟩ : ∃ u, xs[6]? = some u := ⟨_, List.getElem?_eq_getElem (by rw [hlen]; decide)⟩
  rw [← hg 6 _ rfl] at hu6
  simp [List.range_succ, ci] at hu6
  obtain ⟨z6, e6, _⟩ := DataW.trod_int Try.underlying3 hu6
  simp at e6
  obtain ⟨u7, hu7⟩ : ∃ u, xs[7]? = some u := ⟨_, List.getElem?_eq_getElem (by rw [hlen]; decide)⟩
  rw [← hg 7 _ rfl] at hu7
  simp [List.range_succ, ci] at hu7
  obtain ⟨z7, e7, _⟩ := DataW.trod_int Try.underlying3 hu7
  simp at e7
  obtain ⟨u8, hu8⟩ : ∃ u, xs[8]? = some u := ⟨_, List.getElem?_eq_getElem (by rw [hlen]; decide)⟩
  rw [← hg 8 _ rfl] at hu8
  simp [List.range_succ, ci] at hu8
  obtain ⟨z8, e8, _⟩ := DataW.trod_int Try.underlying3 hu8
  simp at e8
  match j, hj with
  | 0, _ => show f i 0 = .int .i64 (intV (f i 0)); rw [e0]; rfl
  | 1, _ => show f i 1 = .int .i64 (intV (f i 1)); rw [e1]; rfl
  | 2, _ => show f i 2 = .int .i64 (intV (f i 2)); rw [e2]; rfl
  | 3, _ => show f i 3 = .int .i64 (intV (f i 3)); rw [e3]; rfl
  | 4, _ => show f i 4 = .int .i64 (intV (f i 4)); rw [e4]; rfl
  | 5, _ => show f i 5 = .int .i64 (intV (f i 5)); rw [e5]; rfl
  | 6, _ => show f i 6 = .int .i64 (intV (f i 6)); rw [e6]; rfl
  | 7, _ => show f i 7 = .int .i64 (intV (f i 7)); rw [e7]; rfl
  | 8, _ => show f i 8 = .int .i64 (intV (f i 8)); rw [e8]; rfl
def VwR.cl (v : VwR) (a b c : Value) : List Value := [.int .i64 v.st, .bool v.multi, .int .i64 v.now, a, b, c, .int .i64 v.queue, .int .i64 v.waits, .int .i64 v.ready, .int .i64 v.control, .int .i64 v.outs, .int .i64 v.came, .int .i64 v.refused, .int .i64 v.spilled, .int .i64 v.given, .int .i64 v.skipped]
def PreV (v : VwR) : Prop := AllPt v.n v.f ∧ AllI v.k v.g ∧ AllI v.l v.h ∧ InI v.came
theorem lit_in {z : Int} (h : (Lit.int .i64 z).wf = true) : InI z := by
  have h2 : (decide (IntKind.i64.min ≤ z) && decide (z ≤ IntKind.i64.max)) = true := h
  simp only [Bool.and_eq_true, decide_eq_true_eq] at h2
  have a1 : IntKind.i64.min = -9223372036854775808 := by decide
  have a2 : IntKind.i64.max = 9223372036854775807 := by decide
  unfold InI; omega
set_option maxRecDepth 100000 in
theorem trod_view {H : Type} {enc : TypeId × Value → H} {W : World} {base fuel : Nat} {sp : Nat → Bool} {cs : List Value} {y0 : DataW H × List MemPlace} (hl : cs.length = 16) (hf : DataW.trod enc Try.prog W base sp true fuel 27 cs = some y0) :
    ∃ (v : VwR) (a b c : Value), cs = v.cl a b c ∧ PreV v ∧ (∀ B, BlkSat B W a (.row v.n 9 v.f)) ∧ (∀ B, BlkSat B W b (.row v.k 1 v.g)) ∧ ∀ B, BlkSat B W c (.row v.l 1 v.h) := by
  match cs, hl with
  | [st_c, multi_c, now_c, a_c, b_c, c_c, queue_c, waits_c, ready_c, control_c, outs_c, came_c, refused_c, spilled_c, given_c, skipped_c], _ =>
  obtain ⟨xs, n, _, _, _, hlen, hg⟩ := DataW.trod_struct Try.underlying27 hf
  obtain ⟨y, hy⟩ : ∃ y, xs[0]? = some y := ⟨_, List.getElem?_eq_getElem (by rw [hlen]; decide)⟩
  rw [← hg 0 _ rfl] at hy
  simp [List.range_succ, show Try.prog.cellsOf 3 = 1 from by kernel_rfl] at hy
  obtain ⟨st, e, _, w_st⟩ := DataW.trod_int Try.underlying3 hy
  simp at e
  subst e
  clear hy
  obtain ⟨y, hy⟩ : ∃ y, xs[1]? = some y := ⟨_, List.getElem?_eq_getElem (by rw [hlen]; decide)⟩
  rw [← hg 1 _ rfl] at hy
  simp [List.range_succ, show Try.prog.cellsOf 4 = 1 from by kernel_rfl] at hy
  obtain ⟨multi, e, _⟩ := DataW.trod_bool Try.underlying4 hy
  simp at e
  subst e
  clear hy
  obtain ⟨y, hy⟩ : ∃ y, xs[2]? = some y := ⟨_, List.getElem?_eq_getElem (by rw [hlen]; decide)⟩
  rw [← hg 2 _ rfl] at hy
  simp [List.range_succ, show Try.prog.cellsOf 3 = 1 from by kernel_rfl] at hy
  obtain ⟨now, e, _, w_now⟩ := DataW.trod_int Try.underlying3 hy
  simp at e
  subst e
  clear hy
  obtain ⟨y, hy⟩ : ∃ y, xs[3]? = some y := ⟨_, List.getElem?_eq_getElem (by rw [hlen]; decide)⟩
  rw [← hg 3 _ rfl] at hy
  simp [List.range_succ, show Try.prog.cellsOf 22 = 1 from by kernel_rfl] at hy
  obtain ⟨hs, ht⟩ := slice_cell Try.underlying22 hy
  obtain ⟨n_a, f_a, p_a, r_a⟩ := open_pts_of hs ht
  clear hy hs ht
  obtain ⟨y, hy⟩ : ∃ y, xs[4]? = some y := ⟨_, List.getElem?_eq_getElem (by rw [hlen]; decide)⟩
  rw [← hg 4 _ rfl] at hy
  simp [List.range_succ, show Try.prog.cellsOf 23 = 1 from by kernel_rfl] at hy
  obtain ⟨hs, ht⟩ := slice_cell Try.underlying23 hy
  obtain ⟨n_b, f_b, p_b, r_b⟩ := open_ints_of hs ht
  clear hy hs ht
  obtain ⟨y, hy⟩ : ∃ y, xs[5]? = some y := ⟨_, List.getElem?_eq_getElem (by rw [hlen]; decide)⟩
  rw [← hg 5 _ rfl] at hy
  simp [List.range_succ, show Try.prog.cellsOf 23 = 1 from by kernel_rfl] at hy
  obtain ⟨hs, ht⟩ := slice_cell Try.underlying23 hy
  obtain ⟨n_c, f_c, p_c, r_c⟩ := open_ints_of hs ht
  clear hy hs ht
  obtain ⟨y, hy⟩ : ∃ y, xs[6]? = some y := ⟨_, List.getElem?_eq_getElem (by rw [hlen]; decide)⟩
  rw [← hg 6 _ rfl] at hy
  simp [List.range_succ, show Try.prog.cellsOf 3 = 1 from by kernel_rfl] at hy
  obtain ⟨queue, e, _, w_queue⟩ := DataW.trod_int Try.underlying3 hy
  simp at e
  subst e
  clear hy
  obtain ⟨y, hy⟩ : ∃ y, xs[7]? = some y := ⟨_, List.getElem?_eq_getElem (by rw [hlen]; decide)⟩
  rw [← hg 7 _ rfl] at hy
  simp [List.range_succ, show Try.prog.cellsOf 3 = 1 from by kernel_rfl] at hy
  obtain ⟨waits, e, _, w_waits⟩ := DataW.trod_int Try.underlying3 hy
  simp at e
  subst e
  clear hy
  obtain ⟨y, hy⟩ : ∃ y, xs[8]? = some y := ⟨_, List.getElem?_eq_getElem (by rw [hlen]; decide)⟩
  rw [← hg 8 _ rfl] at hy
  simp [List.range_succ, show Try.prog.cellsOf 3 = 1 from by kernel_rfl] at hy
  obtain ⟨ready, e, _, w_ready⟩ := DataW.trod_int Try.underlying3 hy
  simp at e
  subst e
  clear hy
  obtain ⟨y, hy⟩ : ∃ y, xs[9]? = some y := ⟨_, List.getElem?_eq_getElem (by rw [hlen]; decide)⟩
  rw [← hg 9 _ rfl] at hy
  simp [List.range_succ, show Try.prog.cellsOf 3 = 1 from by kernel_rfl] at hy
  obtain ⟨control, e, _, w_control⟩ := DataW.trod_int Try.underlying3 hy
  simp at e
  subst e
  clear hy
  obtain ⟨y, hy⟩ : ∃ y, xs[10]? = some y := ⟨_, List.getElem?_eq_getElem (by rw [hlen]; decide)⟩
  rw [← hg 10 _ rfl] at hy
  simp [List.range_succ, show Try.prog.cellsOf 3 = 1 from by kernel_rfl] at hy
  obtain ⟨outs, e, _, w_outs⟩ := DataW.trod_int Try.underlying3 hy
  simp at e
  subst e
  clear hy
  obtain ⟨y, hy⟩ : ∃ y, xs[11]? = some y := ⟨_, List.getElem?_eq_getElem (by rw [hlen]; decide)⟩
  rw [← hg 11 _ rfl] at hy
  simp [List.range_succ, show Try.prog.cellsOf 25 = 5 from by kernel_rfl] at hy
  obtain ⟨xs', n', _, _, _, hlen', hg'⟩ := DataW.trod_struct Try.underlying25 hy
  clear hy
  obtain ⟨y', hy⟩ : ∃ y, xs'[0]? = some y := ⟨_, List.getElem?_eq_getElem (by rw [hlen']; decide)⟩
  rw [← hg' 0 _ rfl] at hy
  simp [List.range_succ, show Try.prog.cellsOf 3 = 1 from by kernel_rfl] at hy
  obtain ⟨came, e, _, w_came⟩ := DataW.trod_int Try.underlying3 hy
  simp at e
  subst e
  clear hy
  obtain ⟨y', hy⟩ : ∃ y, xs'[1]? = some y := ⟨_, List.getElem?_eq_getElem (by rw [hlen']; decide)⟩
  rw [← hg' 1 _ rfl] at hy
  simp [List.range_succ, show Try.prog.cellsOf 3 = 1 from by kernel_rfl] at hy
  obtain ⟨refused, e, _, w_refused⟩ := DataW.trod_int Try.underlying3 hy
  simp at e
  subst e
  clear hy
  obtain ⟨y', hy⟩ : ∃ y, xs'[2]? = some y := ⟨_, List.getElem?_eq_getElem (by rw [hlen']; decide)⟩
  rw [← hg' 2 _ rfl] at hy
  simp [List.range_succ, show Try.prog.cellsOf 3 = 1 from by kernel_rfl] at hy
  obtain ⟨spilled, e, _, w_spilled⟩ := DataW.trod_int Try.underlying3 hy
  simp at e
  subst e
  clear hy
  obtain ⟨y', hy⟩ : ∃ y, xs'[3]? = some y := ⟨_, List.getElem?_eq_getElem (by rw [hlen']; decide)⟩
  rw [← hg' 3 _ rfl] at hy
  simp [List.range_succ, show Try.prog.cellsOf 3 = 1 from by kernel_rfl] at hy
  obtain ⟨given, e, _, w_given⟩ := DataW.trod_int Try.underlying3 hy
  simp at e
  subst e
  clear hy
  obtain ⟨y', hy⟩ : ∃ y, xs'[4]? = some y := ⟨_, List.getElem?_eq_getElem (by rw [hlen']; decide)⟩
  rw [← hg' 4 _ rfl] at hy
  simp [List.range_succ, show Try.prog.cellsOf 3 = 1 from by kernel_rfl] at hy
  obtain ⟨skipped, e, _, w_skipped⟩ := DataW.trod_int Try.underlying3 hy
  simp at e
  subst e
  clear hy
  exact ⟨⟨st, multi, now, queue, waits, ready, control, outs, came, refused, spilled, given, skipped, n_a, f_a, n_b, f_b, n_c, f_c⟩, a_c, b_c, c_c, rfl, ⟨p_a, p_b, p_c, lit_in w_came⟩, r_a, r_b, r_c⟩
set_option maxRecDepth 100000 in
theorem open_view {H : Type} {enc : TypeId × Value → H} {W : World} {base b0 : Nat} {r : Reach} {sp : Nat → Bool} {x : Value} {d : DataW H} {p : List MemPlace} (hv : Value.okWide Try.prog W r b0 27 x) (h : DataW.Trod enc Try.prog W base sp true 27 x d p) :
    ∃ v : VwR, PreV v ∧ v.Is W x := by
  obtain ⟨cs, rfl, hsz⟩ := okWide_struct Try.underlying27 hv
  rw [show Try.prog.cellsOf 27 = 16 from by kernel_rfl] at hsz
  obtain ⟨l⟩ := cs
  obtain ⟨fuel, hf⟩ := h
  have hl : l.length = 16 := by simpa using hsz
  have hl : ((Value.agg ⟨l⟩).cells.toList).length = 16 := hl
  obtain ⟨v, a, b, c, e, h1, h2, h3, h4⟩ := trod_view hl hf
  exact ⟨v, h1, a, b, c, by rw [show l = v.cl a b c from e]; rfl, h2, h3, h4⟩
/-! the law -/
theorem runO_eq {P : Program} {C : Cfg} {L : Nat → St → Option (T (Ex × St))} {fn : Func} {ss : List SV} {H : List Blk} (h : Nat.ble ss.length fn.ntmps = true) : runO P C L fn ss H = (((runC P C L fn.ntmps (body44 fn) ⟨ss.zipIdx.map fun p => (p.2, some p.1), H⟩).bind (finC P fn)).bind onlyV) := by
  unfold runO runF
  rw [h]; rfl
theorem zip2 (a b : SV) : ([a, b] : List SV).zipIdx.map (fun p => (p.2, some p.1)) = [(0, some a), (1, some b)] := rfl
theorem cut44 : body44 Try.f3 = joinC (takeC 4 (body44 Try.f3)) (dropC 4 (body44 Try.f3)) := by kernel_rfl
theorem runO_cut (a b : SV) (H : List Blk) : runO Try.prog (CLa Try.prog Try.f5 auF) noL Try.f3 [a, b] H = ((((runC Try.prog (CLa Try.prog Try.f5 auF) noL Try.f3.ntmps (takeC 4 (body44 Try.f3)) ⟨[(0, some a), (1, some b)], H⟩).bind (thenC Try.prog (CLa Try.prog Try.f5 auF) noL Try.f3.ntmps (dropC 4 (body44 Try.f3)))).bind (finC Try.prog Try.f3)).bind onlyV) := by
  rw [runO_eq (by kernel_rfl), zip2, ← runC_join, ← cut44]
/-- what is wanted of the last region -/
structure KK (P : Program) (C : Cfg) (L : Nat → St → Option (T (Ex × St))) (N : Nat) (r : Code) (fn : Func) (a : Ex × St) : Prop where
  ok : (thenC P C L N r a).ok fun b => (finC P fn b).ok fun c => (onlyV c).ok fun x => x = Value.bool true
theorem fin_ret {P : Program} {C : Cfg} {L : Nat → St → Option (T (Ex × St))} {N : Nat} {r : Code} {fn : Func} {s : St} (h : ((finC P fn (.ret, s)).bind onlyV) = T.leaf (.bool true)) : KK P C L N r fn (.ret, s) :=
  ⟨show (finC P fn (.ret, s)).ok fun c => (onlyV c).ok fun x => x = Value.bool true from T.ok_bind (by rw [h]; exact t_leaf rfl)⟩
theorem fin_go {P : Program} {C : Cfg} {L : Nat → St → Option (T (Ex × St))} {N : Nat} {r : Code} {fn : Func} {s : St} (h : (((runC P C L N r s).bind (finC P fn)).bind onlyV).ok fun x => x = Value.bool true) : KK P C L N r fn (.normal, s) :=
  ⟨show (runC P C L N r s).ok fun b => (finC P fn b).ok fun c => (onlyV c).ok fun x => x = Value.bool true from T.ok_bind (T.ok_bind h)⟩
theorem kk_bind {P : Program} {C : Cfg} {L : Nat → St → Option (T (Ex × St))} {N : Nat} {r : Code} {fn : Func} : ∀ {t : T (Ex × St)}, t.ok (KK P C L N r fn) → (((t.bind (thenC P C L N r)).bind (finC P fn)).bind onlyV).ok fun x => x = Value.bool true
  | .leaf _, h => T.bind_ok (T.bind_ok (KK.ok h))
  | .ite _ _ _, h => ⟨fun e => kk_bind (h.1 e), fun e => kk_bind (h.2 e)⟩
  | .need _ _, h => ⟨h.1, kk_bind h.2⟩
  | .stuck _, h => h
theorem few300 {n : Nat} (h : decide ((n : Int) > 300) = false) : n ≤ 300 := by have := of_decide_eq_false h; omega
set_option maxRecDepth 100000 in
theorem goB1 (v u : VwR) (kv : CkP v) (ku : CkP u) (hw : agreeE v u = 10) : KK Try.prog (CLa Try.prog Try.f5 auF) noL Try.f3.ntmps (dropC 4 (body44 Try.f3)) Try.f3 (.normal, sB1 v u) := by
  refine fin_go ?_
  with_reducible exact lawB1_ok v u kv ku hw
set_option maxRecDepth 100000 in
theorem goB2 (v u : VwR) (kv : CkP v) (ku : CkP u) (hw : agreeE v u = 10) : KK Try.prog (CLa Try.prog Try.f5 auF) noL Try.f3.ntmps (dropC 4 (body44 Try.f3)) Try.f3 (.normal, sB2 v u) := by
  refine fin_go ?_
  with_reducible exact lawB2_ok v u kv ku hw
set_option maxRecDepth 100000 in
theorem goB3 (v u : VwR) (kv : CkP v) (ku : CkP u) (hw : agreeE v u = 7) : KK Try.prog (CLa Try.prog Try.f5 auF) noL Try.f3.ntmps (dropC 4 (body44 Try.f3)) Try.f3 (.normal, sB3 v u) := by
  refine fin_go ?_
  with_reducible exact lawB3_ok v u kv ku hw
set_option maxRecDepth 100000 in
theorem goB4 (v u : VwR) (kv : CkP v) (ku : CkP u) (hw : agreeE v u = 8) : KK Try.prog (CLa Try.prog Try.f5 auF) noL Try.f3.ntmps (dropC 4 (body44 Try.f3)) Try.f3 (.normal, sB4 v u) := by
  refine fin_go ?_
  with_reducible exact lawB4_ok v u kv ku hw
set_option maxRecDepth 100000 in
theorem goB5 (v u : VwR) (kv : CkP v) (ku : CkP u) (hw : agreeE v u = 0) : KK Try.prog (CLa Try.prog Try.f5 auF) noL Try.f3.ntmps (dropC 4 (body44 Try.f3)) Try.f3 (.normal, sB5 v u) := by
  refine fin_go ?_
  with_reducible exact lawB5_ok v u kv ku hw
theorem ck_of {v : VwR} (pv : PreV v) (h1 : decide ((v.n : Int) > 300) = false) (h2 : decide ((v.k : Int) > 300) = false) (h3 : decide ((v.l : Int) > 300) = false) : CkP v := by
  have h1 := few300 h1
  have h2 := few300 h2
  have h3 := few300 h3
  exact ⟨⟨by omega, pv.1⟩, pv.2.1, pv.2.2.1, by omega, by omega, by omega, pv.2.2.2⟩
set_option maxRecDepth 100000 in
theorem auditTells_any (v u : VwR) (x y : Value) (w : World) (hv : v.Is w x) (hu : u.Is w y) (pv : PreV v) (pu : PreV u) : Calls Try.prog 3 #[x, y] w fun e w' => e = .returned (.bool true) ∧ Below w.heap.size w w' := by
  obtain ⟨a, b, c, rfl, r1, r2, r3⟩ := hv
  obtain ⟨d, e, f, rfl, r4, r5, r6⟩ := hu
  refine calls_runO CLa_ok follows Try.func3 (by kernel_rfl) (lexAllF_ok (by kernel_rfl)) (noloops (by kernel_rfl)) (runO_cut (v.s (.ref 0) (.ref 1) (.ref 2)) (u.s (.ref 3) (.ref 4) (.ref 5)) (v.rows ++ u.rows)) ?_ (mem_two r1 r2 r3 r4 r5 r6) rfl
  refine kk_bind ?_
  rw [lawA_run]
  refine t_ite (fun h => by cases h) fun _ => t_ite (fun _ => t_leaf (fin_ret (by kernel_rfl))) fun h1 => t_ite (fun _ => t_leaf (fin_ret (by kernel_rfl))) fun h2 => t_ite (fun _ => t_leaf (fin_ret (by kernel_rfl))) fun h3 => t_ite (fun _ => t_leaf (fin_ret (by kernel_rfl))) fun h4 => t_ite (fun _ => t_leaf (fin_ret (by kernel_rfl))) fun h5 => t_ite (fun _ => t_leaf (fin_ret (by kernel_rfl))) fun h6 => ?_
  have kv : CkP v := ck_of pv h1 h2 h3
  have ku : CkP u := ck_of pu h4 h5 h6
  refine t_ite (fun g => t_leaf (goB1 v u kv ku ?_)) fun g1 => t_ite (fun g => t_leaf (goB2 v u kv ku ?_)) fun g2 => t_ite (fun g => t_leaf (goB3 v u kv ku ?_)) fun g3 => t_need kv.1 (t_need ((sn_same kv.1.2).ck kv).1 (t_need ku.1 (t_need ((sn_same ku.1.2).ck ku).1 (t_need ⟨ints_P _ (jl_le (sn v) kv.1.1), ints_P _ (jl_le (sn u) ku.1.1)⟩ (t_ite (fun g => t_leaf (goB4 v u kv ku ?_)) fun g => t_leaf (goB5 v u kv ku ?_))))))
  · have g := not_b g
    unfold agreeE
    rw [if_neg (fun q => g (decide_eq_true q.1))]
  · have g := not_b g
    unfold agreeE
    rw [if_neg (fun q => g (decide_eq_true q.2))]
  · have g := not_b g
    unfold agreeE
    rw [if_pos ⟨of_decide_eq_true (yes_b g1), of_decide_eq_true (yes_b g2)⟩, if_neg (fun q => g (decide_eq_true q))]
  · have g : ¬ eqL (jl (sn v)) (jl (sn u)) = true := not_b g
    rw [jl_sn pv.1, jl_sn pu.1] at g
    unfold agreeE
    rw [if_pos ⟨of_decide_eq_true (yes_b g1), of_decide_eq_true (yes_b g2)⟩, if_pos (of_decide_eq_true (yes_b g3)), if_neg g]
  · have g : eqL (jl (sn v)) (jl (sn u)) = true := yes_b g
    rw [jl_sn pv.1, jl_sn pu.1] at g
    unfold agreeE
    rw [if_pos ⟨of_decide_eq_true (yes_b g1), of_decide_eq_true (yes_b g2)⟩, if_pos (of_decide_eq_true (yes_b g3)), if_pos g]
set_option maxRecDepth 100000 in
theorem auditTells_walk {H : Type} {enc : TypeId × Value → H} {base : Nat} {v0 v1 : Value} {d0 d1 : DataW H} {p0 p1 : List MemPlace} {W : World}
    (hv0 : Value.okWide Try.prog W .any base 27 v0) (h0 : DataW.Trod enc Try.prog W 0 (fun _ => true) true 27 v0 d0 p0)
    (hv1 : Value.okWide Try.prog W .any base 27 v1) (h1 : DataW.Trod enc Try.prog W 0 (fun _ => true) true 27 v1 d1 p1) :
    Calls Try.prog 3 #[v0, v1] W fun e w' => e = .returned (.bool true) ∧ Below W.heap.size W w' := by
  obtain ⟨v, pv, iv⟩ := open_view hv0 h0
  obtain ⟨u, pu, iu⟩ := open_view hv1 h1
  exact auditTells_any v u v0 v1 W iv iu pv pu
end Go.Proofs.Ytegookefdkcolaa
