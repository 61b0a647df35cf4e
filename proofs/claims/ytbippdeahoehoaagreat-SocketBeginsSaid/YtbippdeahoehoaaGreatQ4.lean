/- Parts of a proof: PmA, PmB. No conditions. -/
import Derived.Test.YtbippdeahoehoaaGreatQ3
import Derived.Maps.Own
import Derived.Maps.OwnOps
import Derived.DeepKeys4
import Derived.Maps.RangeWalk
import Derived.Sort.OwnSorted
import Derived.Deep.QuietTactic
import Derived.BigQuiet
import Derived.StillTailTactics
set_option linter.unusedVariables false
set_option linter.unusedSimpArgs false
namespace Go.Proofs.YtbippdeahoehoaaGreat
open Go.RowKit Sym Go.Maps Go.WideMaps
theorem t_need {α : Type} {Q : α → Prop} {p : Prop} {t : T α} (h1 : p) (h2 : t.ok Q) : (T.need p t).ok Q := ⟨h1, h2⟩
theorem t_chk {α : Type} {Q : α → Prop} {p : Prop} {d : Dec p} {t : T α} (h1 : p) (h2 : t.ok Q) : (@T.chk α p d t).ok Q := ⟨h1, h2⟩
theorem t_ite {α : Type} {Q : α → Prop} {b : Bool} {t e : T α} (h1 : b = true → t.ok Q) (h2 : b = false → e.ok Q) : (T.ite b t e).ok Q := ⟨h1, h2⟩
theorem t_leaf {α : Type} {Q : α → Prop} {a : α} (h : Q a) : (T.leaf a).ok Q := h
theorem lawPlace : KeyLaw Tryz.prog 53 := deep_law_laid (show laidOutB Tryz.prog = true by kernel_rfl) (m := 2) (by omega) (of_decide_eq_true (by kernel_rfl)) (by kernel_rfl) (by kernel_rfl)
theorem keyedPlace : Keyed Tryz.prog 53 := Keyed.of_law lawPlace
def heldV : DataW Value → Value
  | .held v => v
  | _ => .pointer none
def kPl (P : Program) (a b : Int) : Option Lit := keyOf P 53 (.agg #[.int .i64 a, .int .i64 b])
theorem pm_look {b n : Nat} {D : DataW Value} {w : World} (h : w.ownsMap Tryz.prog 53 Sym.R0 b n D) {x y : Int} {l : Lit} (hk : kPl Tryz.prog x y = some l) :
    (Instr.lookup 159 (.map (some b)) (.agg #[.int .i64 x, .int .i64 y]) false).run Tryz.prog w = .ok (heldV (D.atKey l (.held (.pointer none)))) w := by
  obtain ⟨v, ps, hrun, hv⟩ := h.lookup keyedPlace (t := 159) (e := 130) (by kernel_rfl) (z := .pointer none) (by kernel_rfl) (zd := .held (.pointer none)) (zp := []) rfl hk
  unfold Sym.R0 at hv
  simp only [Option.some.injEq, Prod.mk.injEq] at hv
  rw [hrun, ← hv.1]; rfl
def wf64 (x : Int) : Prop := -9223372036854775808 ≤ x ∧ x ≤ 9223372036854775807
theorem wf64_lit {x : Int} (h : wf64 x) : (Lit.int .i64 x).wf = true := by
  unfold wf64 at h
  simp only [Lit.wf, Bool.and_eq_true, decide_eq_true_eq]
  exact ⟨h.1, h.2⟩
def litPl (x y : Int) : Lit := .string (keyBytes [.int .i64 x, .int .i64 y])
theorem kl_int (d : Nat) (x : Int) : Tryz.prog.keyLits (d + 1) 3 [.int .i64 x] = if IntKind.i64 = IntKind.i64 ∧ (Lit.int .i64 x).wf = true then some [Lit.int .i64 x] else none := by
  unfold Program.keyLits
  simp only [Tryz.underlying3]
theorem kl_pl (d : Nat) (x y : Int) (hx : (Lit.int .i64 x).wf = true) (hy : (Lit.int .i64 y).wf = true) : Tryz.prog.keyLits (d + 2) 53 [.int .i64 x, .int .i64 y] = some [.int .i64 x, .int .i64 y] := by
  have c2 : Tryz.prog.cellsOf 53 = 2 := by kernel_rfl
  have c1 : Tryz.prog.cellsOf 3 = 1 := by kernel_rfl
  have hi := kl_int d
  unfold Program.keyLits
  simp only [Tryz.underlying53]
  simp [c1, c2, hi, hx, hy]
theorem kPl_step (x y : Int) (hx : (Lit.int .i64 x).wf = true) (hy : (Lit.int .i64 y).wf = true) : kPl Tryz.prog x y = some (litPl x y) := by
  unfold kPl keyOf
  simp only [Tryz.underlying53]
  rw [show (Tryz.prog.keyType 53 && (Value.agg #[.int .i64 x, .int .i64 y]).formed Tryz.prog 53) = true by kernel_rfl]
  rw [if_pos rfl]
  have h := kl_pl (Tryz.prog.types.size - 1) x y hx hy
  have e : Tryz.prog.types.size - 1 + 2 = Tryz.prog.types.size + 1 := by kernel_rfl
  rw [e] at h
  show Option.map _ (Tryz.prog.keyLits (Tryz.prog.types.size + 1) 53 [.int .i64 x, .int .i64 y]) = _
  rw [h]
  rfl
theorem kPl_eq {x y : Int} (hx : wf64 x) (hy : wf64 y) : kPl Tryz.prog x y = some (litPl x y) := by
  exact kPl_step x y (wf64_lit hx) (wf64_lit hy)
structure SoFn where
  pdq : Func
  ins : Func
  len : Func
  len64 : Func
def SSo0 (P : Program) (N : SoFn) : Tab := addI 241 P (onlyS P noS) noL N.len64 noS
def SSo (P : Program) (N : SoFn) : Tab := addI 129 P (onlyS P (SSo0 P N)) noL N.len (SSo0 P N)
def FSo0 (P : Program) (N : SoFn) : LTab := addT 232 (inl P (onlyS P noS) (LUn P (onlyS P noS) N.ins 1) N.ins) noF
abbrev CSo0 (P : Program) (N : SoFn) : Cfg := both P noS (FSo0 P N) []
def FSo1 (P : Program) (N : SoFn) : LTab := addT 128 (inl P (CSo0 P N) (LUn P (CSo0 P N) N.pdq 1) N.pdq) noF
abbrev CSo1 (P : Program) (N : SoFn) : Cfg := both P (SSo P N) (FSo1 P N) []
set_option maxRecDepth 100000 in
theorem sort1_run (f : Nat → Nat → Value) (c : Value) : runO Tryz.prog (CSo1 Tryz.prog ⟨Tryz.f128, Tryz.f232, Tryz.f129, Tryz.f241⟩) noL Tryz.f63 [.ref 0, .v c] [.row 1 1 f] = .ite false (.ite false (.ite false (.chk ((0 : Int) ≤ (0 : Int) ∧ (0 : Int) < (256 : Int)) (.ite true (.ite false (T.stuck 3002) (.leaf (Value.tuple (Array.mk [])))) (.ite false (T.stuck 2233) (T.stuck 2235)))) (.chk ((0 : Int) ≤ (0 : Int) ∧ (0 : Int) < (256 : Int)) (.ite true (.ite false (T.stuck 3002) (.leaf (Value.tuple (Array.mk [])))) (.ite false (T.stuck 2233) (T.stuck 2235))))) (.ite false (.chk ((0 : Int) ≤ (0 : Int) ∧ (0 : Int) < (256 : Int)) (.ite true (.ite false (T.stuck 3002) (.leaf (Value.tuple (Array.mk [])))) (.ite false (T.stuck 2233) (T.stuck 2235)))) (.chk ((0 : Int) ≤ (0 : Int) ∧ (0 : Int) < (256 : Int)) (.ite true (.ite false (T.stuck 3002) (.leaf (Value.tuple (Array.mk [])))) (.ite false (T.stuck 2233) (T.stuck 2235)))))) (.ite false (.ite false (.chk ((0 : Int) ≤ (0 : Int) ∧ (0 : Int) < (256 : Int)) (.ite true (.ite false (T.stuck 3002) (.leaf (Value.tuple (Array.mk [])))) (.ite false (T.stuck 2233) (T.stuck 2235)))) (.chk ((0 : Int) ≤ (0 : Int) ∧ (0 : Int) < (256 : Int)) (.ite true (.ite false (T.stuck 3002) (.leaf (Value.tuple (Array.mk [])))) (.ite false (T.stuck 2233) (T.stuck 2235))))) (.ite false (.chk ((0 : Int) ≤ (0 : Int) ∧ (0 : Int) < (256 : Int)) (.ite true (.ite false (T.stuck 3002) (.leaf (Value.tuple (Array.mk [])))) (.ite false (T.stuck 2233) (T.stuck 2235)))) (.chk ((0 : Int) ≤ (1 : Int) ∧ (1 : Int) < (256 : Int)) (.ite true (.ite false (T.stuck 3002) (.leaf (Value.tuple (Array.mk [])))) (.ite false (T.stuck 2233) (T.stuck 2235)))))) := by kernel_rfl
theorem SSo0_ok : TabOk Tryz.prog (SSo0 Tryz.prog ⟨Tryz.f128, Tryz.f232, Tryz.f129, Tryz.f241⟩) := addI_ok noS_ok (onlyS_ok noS_ok) follows Tryz.func241 (by kernel_rfl) (by kernel_rfl) (lexAllF_ok (by kernel_rfl)) (noloops (by kernel_rfl))
theorem SSo_ok : TabOk Tryz.prog (SSo Tryz.prog ⟨Tryz.f128, Tryz.f232, Tryz.f129, Tryz.f241⟩) := addI_ok SSo0_ok (onlyS_ok SSo0_ok) follows Tryz.func129 (by kernel_rfl) (by kernel_rfl) (lexAllF_ok (by kernel_rfl)) (noloops (by kernel_rfl))
theorem one_un' {C : Cfg} (hC : CfgOk Tryz.prog C) {fn : Func} (hl : loopsOf (fn.body.getD .skip) = [(0, loopAt fn 0)]) (hll : lexAll C (loopAt fn 0) = true) : ∀ id body, (id, body) ∈ loopsOf (fn.body.getD .skip) → ∀ st t, LUn Tryz.prog C fn 1 id st = some t → RunOk Tryz.prog fn.ntmps (.block id (.loop body)) st t :=
  one_loop hl fun st t h => by
    rw [addL_same h]; exact unroll_ok hC follows hll noL_ok 1 st
theorem FSo0_ok : LOk Tryz.prog (FSo0 Tryz.prog ⟨Tryz.f128, Tryz.f232, Tryz.f129, Tryz.f241⟩) := addT_ok noF_ok (by kernel_rfl) (inl_ok (onlyS_ok noS_ok) follows Tryz.func232 (by kernel_rfl) (lexAllF_ok (by kernel_rfl)) (one_un' (onlyS_ok noS_ok) (by kernel_rfl) (lexAllF_ok (by kernel_rfl))))
theorem CSo0_ok : CfgOk Tryz.prog (CSo0 Tryz.prog ⟨Tryz.f128, Tryz.f232, Tryz.f129, Tryz.f241⟩) := both_ok noS_ok FSo0_ok
theorem FSo1_ok : LOk Tryz.prog (FSo1 Tryz.prog ⟨Tryz.f128, Tryz.f232, Tryz.f129, Tryz.f241⟩) := addT_ok noF_ok (by kernel_rfl) (inl_ok CSo0_ok follows Tryz.func128 (by kernel_rfl) (lexAllF_ok (by kernel_rfl)) (one_un' CSo0_ok (by kernel_rfl) (lexAllF_ok (by kernel_rfl))))
theorem sort1 (f : Nat → Nat → Value) (c u : Value) (w : World) (hu : ∀ B, BlkSat B w u (.row 1 1 f)) : Calls Tryz.prog 63 #[u, c] w fun e w' => e = .returned (.tuple #[]) ∧ Below w.heap.size w w' := by
  refine calls_runO (v := .tuple #[]) (both_ok SSo_ok FSo1_ok) follows Tryz.func63 (by kernel_rfl) (lexAllF_ok (by kernel_rfl)) (noloops (by kernel_rfl)) (sort1_run f c) ?_ (mem_row (hu _)) rfl
  repeat' (first | (with_reducible refine t_need ?_ ?_) | (with_reducible refine t_chk ?_ ?_) | (with_reducible refine t_ite ?_ ?_; all_goals intro h; all_goals (first | (cases h; done) | skip)) | (with_reducible refine t_leaf ?_))
  all_goals first | rfl | omega | contradiction
set_option maxRecDepth 100000 in
theorem find_at {b tb n : Nat} {D : DataW Value} {l : Lit} {x y : Int} {w : World} (hk : kPl Tryz.prog x y = some l) (htb : w.cell? ⟨tb, 0, none⟩ = some (.map (some b))) (hown : w.ownsMap Tryz.prog 53 Sym.R0 b n D) :
    Calls Tryz.prog 44 #[.pointer (some ⟨tb, 0, none⟩), .agg #[.int .i64 x, .int .i64 y]] w fun e w' => e = .returned (heldV (D.atKey l (.held (.pointer none)))) ∧ Below w.heap.size w w' := by
  have hsl : tb < w.heap.size := lt_of_cell htb
  have hown1 := hown.alloc (Obj.cells #[.int .i64 x, .int .i64 y] 53)
  have hbel : Below w.heap.size w (w.alloc (Obj.cells #[.int .i64 x, .int .i64 y] 53)) := (Below.refl _ _).alloc (Nat.le_refl _) _
  have htb1 := (hbel.cell (p := ⟨tb, 0, none⟩) hsl).trans htb
  have c0 : (w.alloc (Obj.cells #[.int .i64 x, .int .i64 y] 53)).cell? ⟨w.heap.size, 0, none⟩ = some (.int .i64 x) := by simp
  have c1 : (w.alloc (Obj.cells #[.int .i64 x, .int .i64 y] 53)).cell? ⟨w.heap.size, 1, none⟩ = some (.int .i64 y) := by simp
  go_enter Tryz.func44, Tryz.ntmps44
  go_wp2
  generalize w.alloc (Obj.cells #[.int .i64 x, .int .i64 y] 53) = W at *
  have hlook := fun q => pm_look (w := W.drewN q) (n := n) (b := b) (D := D) hown1 hk
  go_quiet (fail)
  go_wp2
  go_ret
  exact ⟨rfl, below_drewN hbel _⟩
theorem ptr_info : (Tryz.prog.info? 130).map (fun i => (i.zero, i.size, i.bytes)) = some (some (.pointer none), 1, 8) := by kernel_rfl
theorem oneR0 {D : DataW Value} {l kl : Lit} {v c : Value} {y : DataW Value × List MemPlace} (hD : D = .map [(l, .held v)]) (hv : Sym.R0 c = some y) (hat : ∀ zd, D.atKey kl zd = y.1) : c = v := by
  subst hD
  unfold Sym.R0 at hv
  rw [Option.some.injEq] at hv
  subst hv
  have h1 := hat .nil
  unfold DataW.atKey at h1
  simp only [List.find?_cons, List.find?_nil] at h1
  cases hs : l.sameKey kl
  · rw [hs] at h1; cases h1
  · rw [hs] at h1; cases h1; rfl
set_option maxRecDepth 100000 in
set_option maxHeartbeats 2000000 in
theorem all1 {b tb : Nat} {D : DataW Value} {l : Lit} {q : Option Addr} {w : World} (hD : D = .map [(l, .held (.pointer q))]) (hll : l.sameKey l = true) (htb : w.cell? ⟨tb, 0, none⟩ = some (.map (some b))) (hown : w.ownsMap Tryz.prog 53 Sym.R0 b 1 D) :
    Calls Tryz.prog 36 #[.pointer (some ⟨tb, 0, none⟩)] w fun e w' => ∃ u, e = .returned u ∧ w'.ownsRow w.heap.size 130 1 u 1 [.pointer q] ∧ Below w.heap.size w w' := by
  subst hD
  obtain ⟨i0, hi, hz0, hz1, hz2⟩ := info_parts ptr_info
  have hsl : tb < w.heap.size := lt_of_cell htb
  have hbl := hown.lt
  go_enter Tryz.func36, Tryz.ntmps36
  go_wp2_with (first
    | (at_range; refine wpList_range_own _ rfl _ 159 rfl 53 130 keyedPlace Tryz.underlying159 _ b 1 _ rfl hown ?_; intro w0 hrg0 hg0 hs0)
    | go_in)
  go_frame
  go_loopw [3] (fun u wr => ∃ (left : Lit → Bool) (cnt : Nat) (ss : List Value), wr.ranges Tryz.prog 53 Sym.R0 b w.heap.size 1 (.map [(l, .held (.pointer q))]) left cnt ∧ ss.length + cnt ≤ 1 ∧
      wr.ownsRow w.heap.size 130 1 u ss.length ss ∧ ((ss = [] ∧ left l = true) ∨ ss = [Value.pointer q]) ∧ Below w.heap.size w wr)
    (fun _ wr => wr.rangeLeft b w.heap.size)
  case atStart =>
    exact ⟨_, _, [], hrg0, by simp [Maps.size], ⟨rfl, .inl ⟨rfl, rfl⟩⟩, .inl ⟨rfl, by simp [Maps.has, hll]⟩, (RowKit.Below.refl _ _).grown hg0 (Nat.le_refl _) (fun j hj => by cases hj)⟩
  case round =>
    obtain ⟨left, cnt, ss, hrg, hcs, hrow, hC, hnx⟩ := hrel
    go_wp2_with (first
      | (at_next; refine wpList_next_ranges _ rfl _ rfl 53 keyedPlace Sym.R0 id id (fun key kl hk => ⟨key, rfl⟩) (fun v y hv => ⟨v, rfl⟩) b w.heap.size 1 _ _ _ rfl hrg ?_ ?_)
      | go_in)
    · intro hc0 hl0
      obtain rfl : ss = [Value.pointer q] := by
        rcases hC with ⟨-, h⟩ | h
        · rw [hl0] at h; cases h
        · exact h
      have hrw : ∀ B, BlkSat B wr u3 (.row 1 1 fun _ _ => Value.pointer q) := fun B => by
        rcases hrow.2 with ⟨-, hz⟩ | ⟨g, cap, cur, rfl, hbase, hb, h1, h2, h3, h4⟩
        · cases hz
        · refine ⟨_, cap, rfl, h1, h2, fun i j hi hj => ⟨_, rfl, ?_⟩⟩
          obtain rfl : i = 0 := by omega
          obtain rfl : j = 0 := by omega
          have := hrow.cellAt 0 (by simp)
          simpa [Addr.add] using this
      go_wp2_with (go_at_call 63; refine (sort1 (fun _ _ => Value.pointer q) _ _ _ hrw).mono ?_; rintro e w' ⟨rfl, hbel⟩)
      go_ret
      have hkept := hrow.kept (w' := w') (row := none) ⟨hbel.os, hbel.tape, hbel.output, hbel.size, fun c hc _ => hbel.block c hc⟩ (.inr (by
        rcases hrow.2 with ⟨-, hz⟩ | ⟨g, cap, cur, e, -⟩
        · cases hz
        · rw [e]; simp [Value.ownBlock]))
      exact ⟨_, rfl, hkept, hnx.trans (hbel.mono hnx.size)⟩
    · intro x c kl yd yp w2 cnt2 hkey hlk hv hat hrg2 hlt hg2 hs2 hen
      obtain rfl : c = .pointer q := oneR0 rfl hv (y := (yd, yp)) hat
      obtain rfl : ss = [] := List.length_eq_zero_iff.1 (by omega)
      have hrow2 := hrow.kept hg2 (Or.inr (row_ne_iter hrow hrg).symm)
      clear hs2
      go_wp2_with (first
        | (at_builtin; go_loud (refine wpList_append_own _ rfl _ _ 128 rfl w.heap.size 130 i0 (.pointer none) 1 8 Tryz.underlying128 hi hz0 hz1 hz2 rfl (by decide) _ _ _ rfl (hrow2.alloc _) ⟨w2.heap.size, 0, none⟩ 1 1 [Value.pointer q] rfl rfl (cell_one_new _ _ _) (by simp [Value.oneCell']) (by unfold maxLen at *; omega) (by omega) (by have := hnx.size; have := hg2.size; simp; omega) ?_); intro v' w3 hown' hg3 hnil3)
        | go_in)
      have hrg3 := (hrg2.alloc _).kept hg3 (row_ne_low hrow2 hbl) (row_ne_iter hrow2 hrg2)
      go_roundw
      case rel =>
        refine ⟨_, cnt2, [Value.pointer q], hrg3, by simp; omega, by simpa using hown', .inr rfl, ?_⟩
        exact ((hnx.grown hg2 hnx.size (fun j hj => by cases hj; exact Nat.le_refl _)).alloc (by have := hnx.size; have := hg2.size; omega) _).grown hg3 (by have := hnx.size; have := hg2.size; simp; omega) (fun j hj => (hrow2.lt j hj).1)
      case measure => rw [hrg3.left_eq, hrg.left_eq]; exact hlt
theorem new_any (w : World) : Calls Tryz.prog 19 #[] w fun e w' => e = .returned (.pointer (some ⟨w.heap.size + 1, 0, none⟩)) ∧ w' = (w.alloc (.map #[] 0)).alloc (.cells #[.map (some w.heap.size)] 161) := by
  have hmm : ∀ t w, (Instr.makeMap t none).run Tryz.prog w = .ok (.map (some w.heap.size)) (w.alloc (.map #[] 0)) := fun t w => rfl
  go_enter Tryz.func19, Tryz.ntmps19
  go_wp2
  go_ret
  exact ⟨rfl, rfl⟩
def fNewP : List SV → List Blk → Option (T (SV × List Blk))
  | [], [] => some (.leaf (.ptr 1 0, [.pm 53 [] [], .own [.ref 0]]))
  | _, _ => none
theorem fNewP_ok : EntryOk Tryz.prog 19 fNewP := by
  intro ss H t ht bs B w vs hm hv Qs hq
  unfold fNewP at ht
  split at ht
  · simp only [Option.some.injEq] at ht
    subst ht
    obtain rfl := tos_nil hv
    have hB : B = [] := List.length_eq_zero_iff.1 hm.sat.len
    subst hB
    refine (new_any w).mono ?_
    rintro e w' ⟨rfl, rfl⟩
    have hs : (w.alloc (.map #[] 0)).heap.size = w.heap.size + 1 := by simp
    have m1 : Mem w bs ([] ++ [.pm 53 [] []]) ([] ++ [.map (some w.heap.size)]) (w.alloc (.map #[] 0)) := hm.add (World.grownBy_alloc w _ none) (fun b hb => by simp only [blockOf, Option.some.injEq] at hb; omega) ⟨[], rfl, rfl, _, rfl, World.ownsMap_made w Tryz.prog 53 Sym.R0⟩
    have m2 := m1.add (w' := (w.alloc (.map #[] 0)).alloc (.cells #[.map (some w.heap.size)] 161)) (y := .own [.ref 0]) (u := .pointer (some ⟨w.heap.size + 1, 0, none⟩)) (World.grownBy_alloc _ _ none) (fun b hb => by simp only [blockOf, Option.some.injEq] at hb; omega) ⟨w.heap.size + 1, [.map (some w.heap.size)], rfl, rfl, own_new' _ _ _ hs.symm⟩
    exact ⟨_, _, [.map (some w.heap.size), .pointer (some ⟨w.heap.size + 1, 0, none⟩)], _, hq, List.nil_prefix, rfl, rfl, m2⟩
  · cases ht
def placeV : SV → Option (Int × Int)
  | .v (.agg ⟨[.int .i64 x, .int .i64 y]⟩) => some (x, y)
  | .c (.agg ⟨[.int .i64 x, .int .i64 y]⟩) => some (x, y)
  | .agg [s, r] => (match s.plain, r.plain with
    | some (.int .i64 x), some (.int .i64 y) => some (x, y)
    | _, _ => none)
  | _ => none
theorem placeV_to {s : SV} {x y : Int} (h : placeV s = some (x, y)) (B : List Value) : s.to B = some (.agg #[.int .i64 x, .int .i64 y]) := by
  unfold placeV at h
  split at h
  · simp only [Option.some.injEq, Prod.mk.injEq] at h; obtain ⟨rfl, rfl⟩ := h; rfl
  · simp only [Option.some.injEq, Prod.mk.injEq] at h; obtain ⟨rfl, rfl⟩ := h; rfl
  · rename_i s r
    split at h
    · rename_i x' y' h1 h2
      simp only [Option.some.injEq, Prod.mk.injEq] at h; obtain ⟨rfl, rfl⟩ := h
      simp only [SV.to, SV.tos, SV.plain_to h1 B, SV.plain_to h2 B, Option.map_some]
    · cases h
  · cases h
def atPm (l : Lit) : List Lit → List SV → Option SV
  | [], [] => some (.c (.pointer none))
  | [k], [s] => some (bif k.sameKey l then s else .c (.pointer none))
  | _, _ => none
theorem atPm_ok {l : Lit} {kl : List Lit} {cells : List SV} {s : SV} (h : atPm l kl cells = some s) {B : List Value} {xs : List Value} (hx : SV.tos B cells = some xs) : s.to B = some (heldV ((pmD kl xs).atKey l (.held (.pointer none)))) := by
  unfold atPm at h
  split at h
  · simp only [Option.some.injEq] at h; subst h
    simp only [SV.tos, Option.some.injEq] at hx; subst hx
    rfl
  · rename_i k s0
    simp only [Option.some.injEq] at h; subst h
    obtain ⟨x0, r0, e0, v0, rfl⟩ := tos_cons hx
    obtain rfl := tos_nil v0
    have hat : (pmD [k] [x0]).atKey l (.held (.pointer none)) = if k.sameKey l then .held x0 else .held (.pointer none) := by
      show (DataW.map [(k, .held x0)]).atKey l _ = _
      unfold DataW.atKey
      simp only [List.find?_cons, List.find?_nil]
      cases k.sameKey l <;> rfl
    rw [hat]
    cases k.sameKey l
    · rfl
    · exact e0
  · cases h
def fFindP : List SV → List Blk → Option (T (SV × List Blk))
  | [.ptr t 0, pl], H => (match H[t]?, placeV pl with
    | some (.own [.ref m]), some (x, y) => (match H[m]? with
      | some (.pm K kl cells) => bif Nat.beq K 53 then (match atPm (litPl x y) kl cells with
        | some s => some (.chk (-9223372036854775808 ≤ x ∧ x ≤ 9223372036854775807 ∧ -9223372036854775808 ≤ y ∧ y ≤ 9223372036854775807) (.leaf (s, H)))
        | none => none) else none
      | _ => none)
    | _, _ => none)
  | _, _ => none
theorem fFindP_ok : EntryOk Tryz.prog 44 fFindP := by
  intro ss H t ht bs B w vs hm hv Qs hq
  unfold fFindP at ht
  split at ht
  · rename_i tl pl
    split at ht
    · rename_i m x y h0 hpl
      split at ht
      · rename_i K kl cells h1
        cases hK : Nat.beq K 53
        · rw [hK] at ht; cases ht
        rw [hK, cond_true] at ht
        obtain rfl := Nat.eq_of_beq_eq_true hK
        split at ht
        · rename_i s hs
          simp only [Option.some.injEq] at ht
          subst ht
          obtain ⟨⟨x1, x2, y1, y2⟩, hq⟩ := hq
          obtain ⟨p0, r0, e0, v0, rfl⟩ := tos_cons hv
          obtain ⟨p1, r1, e1, v1, rfl⟩ := tos_cons v0
          obtain rfl := tos_nil v1
          rw [placeV_to hpl B, Option.some.injEq] at e1
          subst e1
          obtain ⟨tb, us, g1, g2, g3⟩ := hm.own_at h0
          simp only [SV.to, g1, Option.some.injEq] at e0
          subst e0
          obtain ⟨um, hum⟩ := hm.sat.getB h1
          obtain ⟨xs, k1, k2, b, rfl, hown⟩ := hm.sat.blk m _ um h1 hum
          obtain ⟨c0, r2, f0, f1, rfl⟩ := tos_cons g2
          obtain rfl := tos_nil f1
          simp only [SV.to, hum, Option.some.injEq] at f0
          subst f0
          refine (find_at (kPl_eq (x := x) (y := y) ⟨x1, x2⟩ ⟨y1, y2⟩) (by have := g3.2.1 0; simpa using this) hown).mono ?_
          rintro e w' ⟨rfl, hb⟩
          exact ⟨s, H, B, _, hq, List.prefix_refl _, rfl, atPm_ok hs k1, hm.below hb⟩
        · cases ht
      · cases ht
    · cases ht
  · cases ht
theorem sort0 (w : World) : Calls Tryz.prog 63 #[.slice none 0 0, .func (.func 64) #[] #[]] w fun e w' => e = .returned (.tuple #[]) ∧ Below w.heap.size w w' := by
  have hm : Mem w [] [] [] w := ⟨⟨rfl, by simp, by simp [ExBlk], by simp [ExBlk]⟩, .refl _ _, by simp [ExBlk]⟩
  refine (calls_of_runXK (r := (.c (.tuple #[]), [])) (args := [.c (.slice none 0 0), .c (.func (.func 64) #[] #[])]) (anyC_ok (m := 0) follows noS_ok noF_ok 5) follows Tryz.func63 (by kernel_rfl) rfl hm (by kernel_rfl)).mono ?_
  rintro e w' ⟨B', x, h1, h2, rfl, h4⟩
  simp only [SV.to, Option.some.injEq] at h2
  subst h2
  exact ⟨rfl, h4.keeps.below⟩
set_option maxRecDepth 100000 in
set_option maxHeartbeats 2000000 in
theorem all0 {b tb : Nat} {w : World} (htb : w.cell? ⟨tb, 0, none⟩ = some (.map (some b))) (hown : w.ownsMap Tryz.prog 53 Sym.R0 b 0 (.map [])) :
    Calls Tryz.prog 36 #[.pointer (some ⟨tb, 0, none⟩)] w fun e w' => e = .returned (.slice none 0 0) ∧ Below w.heap.size w w' := by
  have hsl : tb < w.heap.size := lt_of_cell htb
  have hbl := hown.lt
  go_enter Tryz.func36, Tryz.ntmps36
  go_wp2_with (first
    | (at_range; refine wpList_range_own _ rfl _ 159 rfl 53 130 keyedPlace Tryz.underlying159 _ b 0 _ rfl hown ?_; intro w0 hrg0 hg0 hs0)
    | go_in)
  go_frame
  go_loopw [3] (fun u wr => ∃ (left : Lit → Bool) (cnt : Nat), wr.ranges Tryz.prog 53 Sym.R0 b w.heap.size 0 (.map []) left cnt ∧ u = .slice none 0 0 ∧ Below w.heap.size w wr)
    (fun _ wr => wr.rangeLeft b w.heap.size)
  case atStart =>
    exact ⟨_, _, hrg0, rfl, (RowKit.Below.refl _ _).grown hg0 (Nat.le_refl _) (fun j hj => by cases hj)⟩
  case round =>
    obtain ⟨left, cnt, hrg, rfl, hnx⟩ := hrel
    go_wp2_with (first
      | (at_next; refine wpList_next_ranges _ rfl _ rfl 53 keyedPlace Sym.R0 id id (fun key kl hk => ⟨key, rfl⟩) (fun v y hv => ⟨v, rfl⟩) b w.heap.size 0 _ _ _ rfl hrg ?_ ?_)
      | go_in)
    · intro hc0 hl0
      go_wp2_with (go_at_call 63; refine (sort0 _).mono ?_; rintro e w' ⟨rfl, hbel⟩)
      go_ret
      exact ⟨rfl, hnx.trans (hbel.mono hnx.size)⟩
    · intro x c kl yd yp w2 cnt2 hkey hlk hv hat hrg2 hlt hg2 hs2 hen
      have h1 := hat .nil
      have h2 := hat (.held (.pointer none))
      simp only [DataW.atKey, List.find?_nil] at h1 h2
      rw [← h1] at h2
      cases h2
def fAllP : List SV → List Blk → Option (T (SV × List Blk))
  | [.ptr t 0], H => (match H[t]? with
    | some (.own [.ref m]) => (match H[m]? with
      | some (.pm K [] []) => bif Nat.beq K 53 then some (.leaf (.c (.slice none 0 0), H)) else none
      | some (.pm K [k] [.ptr p 0]) => bif Nat.beq K 53 && k.sameKey k then some (.leaf (.ref H.length, H ++ [.lst 130 1 1 [.ptr p 0]])) else none
      | _ => none)
    | _ => none)
  | _, _ => none
theorem fAllP_ok : EntryOk Tryz.prog 36 fAllP := by
  intro ss H t ht bs B w vs hm hv Qs hq
  unfold fAllP at ht
  split at ht
  · rename_i tl
    split at ht
    · rename_i m h0
      obtain ⟨p0, r0, e0, v0, rfl⟩ := tos_cons hv
      obtain rfl := tos_nil v0
      obtain ⟨tb, us, g1, g2, g3⟩ := hm.own_at h0
      simp only [SV.to, g1, Option.some.injEq] at e0
      subst e0
      obtain ⟨c0, r2, f0, f1, rfl⟩ := tos_cons g2
      obtain rfl := tos_nil f1
      split at ht
      · rename_i K h1
        cases hK : Nat.beq K 53
        · rw [hK] at ht; cases ht
        rw [hK, cond_true, Option.some.injEq] at ht
        subst ht
        obtain rfl := Nat.eq_of_beq_eq_true hK
        obtain ⟨um, hum⟩ := hm.sat.getB h1
        obtain ⟨xs, k1, k2, b, rfl, hown⟩ := hm.sat.blk m _ um h1 hum
        simp only [SV.to, hum, Option.some.injEq] at f0
        subst f0
        obtain rfl := tos_nil k1
        refine (all0 (by have := g3.2.1 0; simpa using this) hown).mono ?_
        rintro e w' ⟨rfl, hb⟩
        exact ⟨_, H, B, _, hq, List.prefix_refl _, rfl, rfl, hm.below hb⟩
      · rename_i K k p h1
        cases hK : (Nat.beq K 53 && k.sameKey k)
        · rw [hK] at ht; cases ht
        rw [hK, cond_true, Option.some.injEq] at ht
        subst ht
        rw [Bool.and_eq_true] at hK
        obtain rfl := Nat.eq_of_beq_eq_true hK.1
        obtain ⟨um, hum⟩ := hm.sat.getB h1
        obtain ⟨xs, k1, k2, b, rfl, hown⟩ := hm.sat.blk m _ um h1 hum
        simp only [SV.to, hum, Option.some.injEq] at f0
        subst f0
        obtain ⟨x1, r3, j1, j2, rfl⟩ := tos_cons k1
        obtain rfl := tos_nil j2
        have hp : ∃ q, x1 = .pointer q := by
          simp only [SV.to] at j1
          split at j1
          · simp only [Option.some.injEq] at j1; exact ⟨_, j1.symm⟩
          · cases j1
        obtain ⟨q, rfl⟩ := hp
        refine (all1 (D := pmD [k] [.pointer q]) rfl hK.2 (by have := g3.2.1 0; simpa using this) hown).mono ?_
        rintro e w' ⟨u, rfl, hrow, hb⟩
        have hgr : w.grownBy w' none := ⟨hb.os, hb.tape, hb.output, hb.size, fun c hc _ => hb.block c hc⟩
        refine ⟨_, _, B ++ [u], u, hq, List.prefix_append _ _, rfl, ref_to hm.sat.len u, hm.add hgr (fun c hc => ?_) ⟨[.pointer q], SV.tos_mono (List.prefix_append _ _) (by simp only [SV.tos, j1]), .inl (owns_base hrow)⟩⟩
        exact (World.ownsRow.lt hrow c (by rw [← ownsRow_block (owns_base hrow)]; exact hc)).1
      · cases ht
    · cases ht
  · cases ht
structure BelowBy (W : World) where
  w : World
  h : Below W.heap.size W w
instance (W : World) : Inhabited (BelowBy W) := ⟨⟨W, Below.refl _ _⟩⟩
theorem wp_region_below {P : Program} {id : Nat} {Q : Exit → Act → World → Prop} {a : Act} {w : World} {l : List Oper} (hm : P.follows .mixedOrders = true) (hB : Region.lexB .any l.toArray = true)
    (h : wpQuiet P l.toArray (fun w' => ∃ p : BelowBy w, w' = p.w) (fun a' => ∀ w', (∃ p : BelowBy w, w' = p.w) → Q .normal a' w') l a) : (Code.region id l.toArray true).wp P Q a w :=
  wp_region_quiet (C := fun w' => ∃ p : BelowBy w, w' = p.w) hm hB ⟨⟨w.drew, (Below.refl _ _).drew⟩, rfl⟩ (by simpa using h)
theorem below_left {P : Program} {f : FuncId} {args : Array Value} {W : World} {p : BelowBy W} {v : Value}
    (h : Calls P f args p.w fun e w' => e = .returned v ∧ Below p.w.heap.size p.w w') : Calls P f args p.w fun e w'' => e = .returned v ∧ ∃ q : BelowBy W, w'' = q.w :=
  h.mono fun _ w' ⟨he, hb⟩ => ⟨he, ⟨w', p.h.trans (hb.mono p.h.size)⟩, rfl⟩
theorem cell_by {W : World} {a : Addr} {v : Value} (h : W.cell? a = some v) (p : BelowBy W) : p.w.cell? a = some v := (p.h.cell (p := a) (lt_of_cell h)).trans h
theorem owns_below' {b n : Nat} {D : DataW Value} {W w : World} (h : W.ownsMap Tryz.prog 53 Sym.R0 b n D) (hb : Below W.heap.size W w) : w.ownsMap Tryz.prog 53 Sym.R0 b n D := by
  have e := hb.block b h.lt
  unfold World.ownsMap at h ⊢
  rw [e]; exact h
def okIs (s0 : SV) : Re (SV × List Blk) → Bool
  | .ok r => sameSV r.1 s0
  | .er _ => false
theorem closedV {f : FuncId} {fn : Func} (hf : Tryz.prog.funcs[f]? = some fn) (hb : fn.body.isSome = true) {xs : List Value} {s : SV} {v : Value} (hs : s.to [] = some v) (hr : okIs s (runXK Tryz.prog (anyC Tryz.prog 0 noS noF 5) fn (xs.map .c) []) = true) (w : World) :
    Calls Tryz.prog f xs.toArray w fun e w' => e = .returned v ∧ Below w.heap.size w w' := by
  have hm : Mem w [] [] [] w := ⟨⟨rfl, by simp, by simp [ExBlk], by simp [ExBlk]⟩, .refl _ _, by simp [ExBlk]⟩
  unfold okIs at hr
  split at hr
  · rename_i r hrun
    refine (calls_of_runXK (anyC_ok (m := 0) follows noS_ok noF_ok 5) follows hf hb (tos_conc [] xs) hm hrun).mono ?_
    rintro e w' ⟨B', x, h1, h2, rfl, h4⟩
    have := SV.to_mono h1 hs
    rw [sameSV_eq hr, this, Option.some.injEq] at h2
    subst h2
    exact ⟨rfl, h4.keeps.below⟩
  · cases hr
theorem id_11 (w : World) : Calls Tryz.prog 66 #[.agg #[.int .i64 1, .int .i64 1]] w fun e w' => e = .returned (.int .i64 17) ∧ Below w.heap.size w w' :=
  closedV (xs := [.agg #[.int .i64 1, .int .i64 1]]) (s := .c (.int .i64 17)) Tryz.func66 (by kernel_rfl) rfl (by kernel_rfl) w
theorem place_17 (w : World) : Calls Tryz.prog 139 #[.int .i64 17] w fun e w' => e = .returned (.agg #[.int .i64 1, .int .i64 1]) ∧ Below w.heap.size w w' :=
  closedV (xs := [.int .i64 17]) (s := .c (.agg #[.int .i64 1, .int .i64 1])) Tryz.func139 (by kernel_rfl) rfl (by kernel_rfl) w
set_option maxRecDepth 100000 in
theorem add_11 {w : World} {tb b p : Nat} (htw : w.cell? ⟨tb, 0, none⟩ = some (.map (some b))) (hown : w.ownsMap Tryz.prog 53 Sym.R0 b 0 (.map [])) (hx : w.cell? ⟨p, 0, none⟩ = some (.int .i64 1)) (hy : w.cell? ⟨p, 1, none⟩ = some (.int .i64 1)) :
    Calls Tryz.prog 87 #[.pointer (some ⟨tb, 0, none⟩), .pointer (some ⟨p, 0, none⟩)] w fun e w' => e = .returned (.int .i64 0) ∧ w'.ownsMap Tryz.prog 53 Sym.R0 b 1 ((DataW.map []).put (litPl 1 1) (.held (.pointer (some ⟨p, 0, none⟩)))) ∧ w.grownBy w' (some b) := by
  have hk : kPl Tryz.prog 1 1 = some (litPl 1 1) := kPl_eq (by unfold wf64; omega) (by unfold wf64; omega)
  have hx1 := cell_by hx
  have hy1 := cell_by hy
  have htw1 := cell_by htw
  go_enter Tryz.func87, Tryz.ntmps87
  go_wp2
  (refine wp_region_below (by kernel_rfl) (by kernel_rfl) ?_; (repeat (quiet_step (first | (go_at_call 66; exact below_left (id_11 _)) | (go_at_call 139; exact below_left (place_17 _))))); refine wpQuiet_nil ?_; intro _ hw'; obtain ⟨⟨wq, hbq⟩, hw''⟩ := hw'; subst hw'')
  rename_i wq
  have hownq := owns_below' hown hbq
  have hx2 := (hbq.cell (p := ⟨p, 0, none⟩) (lt_of_cell hx)).trans hx
  have hy2 := (hbq.cell (p := ⟨p, 1, none⟩) (lt_of_cell hy)).trans hy
  have htw2 := (hbq.cell (p := ⟨tb, 0, none⟩) (lt_of_cell htw)).trans htw
  clear hx1 hy1 htw1
  have hl5 : ∀ n, _ := fun n => pm_look (w := wq.drewN n) (n := 0) (b := b) (D := .map []) hownq hk
  have hnil : heldV ((DataW.map []).atKey (litPl 1 1) (.held (.pointer none))) = .pointer none := rfl
  rw [hnil] at hl5
  go_wp2
  go_quiet (fail)
  have hownq2 : (wq.drewN nq).ownsMap Tryz.prog 53 Sym.R0 b 0 (.map []) := hownq
  have hbq2 := below_drewN hbq nq
  have hx3 : (wq.drewN nq).cell? ⟨p, 0, none⟩ = some (.int .i64 1) := hx2
  have hy3 : (wq.drewN nq).cell? ⟨p, 1, none⟩ = some (.int .i64 1) := hy2
  have htw3 : (wq.drewN nq).cell? ⟨tb, 0, none⟩ = some (.map (some b)) := htw2
  clear hx2 hy2 htw2 hl5 hownq hbq
  generalize wq.drewN nq = wr at *
  have hsz : Maps.size (DataW.map ([] : List (Lit × DataW Value))) = 0 := rfl
  go_wp2_with (first | (at_len; refine wpList_len_own _ rfl _ 159 rfl 53 130 Tryz.underlying159 _ b 0 (.map []) rfl hownq2 ?_; rw [hsz]) | go_in)
  (refine wp_region_still_tail 9 (by kernel_rfl) (by kernel_rfl) ?_; simp only [List.take_succ_cons, List.take_zero, List.drop_succ_cons, List.drop_zero]; change wpStill _ _ (World.drew _) (fun a' => wpList _ _ _ _ a' (World.drew _)) _ _; (repeat still_step); refine wpStill_nil ?_)
  have hownr : wr.drew.ownsMap Tryz.prog 53 Sym.R0 b 0 (.map []) := hownq2
  refine wpList_mapUpdate_own _ rfl _ _ _ 159 rfl 53 130 keyedPlace Tryz.underlying159 Sym.R0 b 0 (.map []) rfl hownr (by unfold maxLen; omega) _ _ (litPl 1 1) rfl rfl hk (.held (.pointer (some ⟨p, 0, none⟩))) [] rfl ?_
  intro w1 hown1 hg1
  go_wp2
  go_ret
  refine ⟨rfl, hown1, ?_⟩
  exact ⟨hg1.os.trans hbq2.os, hg1.tape.trans hbq2.tape, hg1.output.trans hbq2.output, Nat.le_trans hbq2.size hg1.size, fun k hk hne => (hg1.block k (Nat.lt_of_lt_of_le hk hbq2.size) hne).trans (hbq2.block k hk)⟩
def fAddP : List SV → List Blk → Option (T (SV × List Blk))
  | [.ptr t 0, .ptr p 0], H => (match H[t]?, H[p]? with
    | some (.own [.ref m]), some (.own (sx :: sy :: _)) => (match H[m]?, sx.plain, sy.plain with
      | some (.pm K [] []), some (.int .i64 1), some (.int .i64 1) => bif Nat.beq K 53 then some (.leaf (.c (.int .i64 0), H.set m (.pm K [litPl 1 1] [.ptr p 0]))) else none
      | _, _, _ => none)
    | _, _ => none)
  | _, _ => none
theorem fAddP_ok : EntryOk Tryz.prog 87 fAddP := by
  intro ss H t ht bs B w vs hm hv Qs hq
  unfold fAddP at ht
  split at ht
  · rename_i tl pl
    split at ht
    · rename_i m sx sy rest h0 hp
      split at ht
      · rename_i K h1 hsx hsy
        cases hK : Nat.beq K 53
        · rw [hK] at ht; cases ht
        rw [hK, cond_true, Option.some.injEq] at ht
        subst ht
        obtain rfl := Nat.eq_of_beq_eq_true hK
        obtain ⟨p0, r0, e0, v0, rfl⟩ := tos_cons hv
        obtain ⟨p1, r1, e1, v1, rfl⟩ := tos_cons v0
        obtain rfl := tos_nil v1
        obtain ⟨tb, us, g1, g2, g3⟩ := hm.own_at h0
        simp only [SV.to, g1, Option.some.injEq] at e0
        subst e0
        obtain ⟨pb, vs', k1, k2, k3⟩ := hm.own_at hp
        simp only [SV.to, k1, Option.some.injEq] at e1
        subst e1
        obtain ⟨c0, r2, f0, f1, rfl⟩ := tos_cons g2
        obtain rfl := tos_nil f1
        obtain ⟨um, hum⟩ := hm.sat.getB h1
        obtain ⟨xs, j1, j2, b, rfl, hown⟩ := hm.sat.blk m _ um h1 hum
        simp only [SV.to, hum, Option.some.injEq] at f0
        subst f0
        obtain ⟨x0, r3, q0, q1, rfl⟩ := tos_cons k2
        obtain ⟨x1, r4, q2, q3, rfl⟩ := tos_cons q1
        rw [SV.plain_to hsx B, Option.some.injEq] at q0
        rw [SV.plain_to hsy B, Option.some.injEq] at q2
        subst q0
        subst q2
        obtain rfl := tos_nil j1
        refine (add_11 (p := pb) (by have := g3.2.1 0; simpa using this) hown (by have := k3.2.1 0; simpa using this) (by have := k3.2.1 1; simpa using this)).mono ?_
        rintro e w' ⟨rfl, hown', hg⟩
        refine ⟨_, _, B, _, hq, List.prefix_refl _, rfl, rfl, hm.upd h1 rfl hum hg rfl ⟨[.pointer (some ⟨pb, 0, none⟩)], ?_, rfl, b, rfl, hown'⟩⟩
        simp only [SV.tos, SV.to, k1]
      · cases ht
    · cases ht
  · cases ht
end Go.Proofs.YtbippdeahoehoaaGreat
