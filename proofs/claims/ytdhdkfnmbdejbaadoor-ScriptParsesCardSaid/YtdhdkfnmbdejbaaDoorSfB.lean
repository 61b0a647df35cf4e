/- A feed's Put, by the machine of one, its callees by their contracts. No conditions. -/
import Derived.Test.YtdhdkfnmbdejbaaDoorSfA
namespace Go.Proofs.YtdhdkfnmbdejbaaDoor
set_option linter.unusedVariables false
set_option linter.unusedSimpArgs false
open Go.Conc Go.RowKit

/-- a call in a walk of the machine of one, by the callee's contract -/
theorem LoneTo.call {P : Program} {Q : Goroutine → World → Prop} {a : Act} {b : Frame} {k : List Item} {cs : List Frame} {w : World} {ops : Array Oper} {i : Nat} {rest : List Nat} {o : Oper} {f : FuncId} {fn : Func} {args : Array Operand} {ats : Array TypeId} {vs : Array Value} {R : Ending → World → Prop}
    (hC : Calls P f vs w R) (ho : ops[i]? = some o) (hw : Region.wanted o (yielded ops a.tmps) = true) (hk : b.kind ≠ .early) (hop : o.op = .call { callee := .value (.func f), args, argTypes := ats })
    (hf : P.funcs[f]? = some fn) (hname : (fn.name == "runtime.NumGoroutine") = false) (hb : fn.body.isNone = false) (hv : args.map a.eval = vs)
    (hR : ∀ e w', R e w' → ∃ v, e = .returned v ∧ LoneTo P Q (G (b.at (a.put o.dst v) (.inRegion ops rest :: k)) cs) w') :
    LoneTo P Q (G (b.at a (.inRegion ops (i :: rest) :: k)) cs) w := by
  subst hv
  obtain ⟨e, w', fr', hRe, hcomes, -, hl⟩ := hC (b.at a (.inRegion ops (i :: rest) :: k) :: cs)
  obtain ⟨v, rfl, g₂, w₂, hs, hq⟩ := hR e w' hRe
  refine ⟨g₂, w₂, Steps.head (step_solo_go rfl (stepG_enter ho hw hk (run_call_body hop hf hname hb))) (Steps.trans hcomes (Steps.head (step_leave_returned hl) ?_)), hq⟩
  rw [Frame.finish_at, ho]
  exact hs

set_option maxRecDepth 100000 in
/-- an urgent line, with room -/
theorem put_u_room {w : World} {k cu cp cc cap s r s' r' cap' : Nat} {buf : Array Value} {l rest : ByteArray} (hcut : ∀ W, Calls Tryd.prog 35 #[.string l, .string ⟨#[33]⟩] W fun e w' => e = .returned (.tuple #[.string rest, .bool true]) ∧ W = w')
    (h0 : w.cell? ⟨k, 0, none⟩ = some (.chan (some cu))) (h1 : w.cell? ⟨k, 1, none⟩ = some (.chan (some cp))) (h2 : w.cell? ⟨k, 2, none⟩ = some (.chan (some cc))) (hs : w.heap[cc]? = some (.chan cap' #[] false s' r' false)) (hc : w.heap[cu]? = some (.chan cap buf false s r false)) (hroom : buf.size < cap) :
    Calls Tryd.prog 15 #[.pointer (some ⟨k, 0, none⟩), .string l] w fun e w' => e = .returned (.bool true) ∧ w' = w.setChan cu cap (buf.push (.string rest)) false (s + 1) r false := by
  refine calls_of_loneTo fun cs => ?_
  have e : Frame.enter Tryd.prog 15 #[.pointer (some ⟨k, 0, none⟩), .string l] .normal = (base 15).at ⟨#[.pointer (some ⟨k, 0, none⟩), .string l, undef, undef, undef, undef, undef, undef, undef, undef, undef, undef, undef, undef, undef, undef, undef, undef, undef, undef, undef, undef, undef, undef, undef, undef, undef, undef, undef, undef, undef, undef, undef, undef], []⟩ [.code (Tryd.f15.body.getD .skip)] := by
    simp [Frame.enter, Frame.at, Tryd.func15, base, Tryd.f15]
  rw [e]
  refine LoneTo.goes (n := 11) ?_
  simp only [Tryd.f15, Option.getD_some]
  s_c stepG_seq
  s_reg
  s_op
  s_c stepG_region_end
  s_c stepG_seq
  s_c stepG_seq
  s_reg
  s_op
  s_op
  s_op
  s_op
  s_stop
  refine LoneTo.call (over_open h2 hs) rfl rfl (by decide) rfl Tryd.func34 (by kernel_rfl) (by kernel_rfl) (by simp [Act.eval]) ?_
  rintro _ w1 ⟨rfl, hw1⟩
  obtain rfl : w = w1 := hw1.symm
  refine ⟨_, rfl, ?_⟩
  walk_nrm
  refine LoneTo.goes (n := 16) ?_
  s_op
  s_c stepG_region_end
  s_cond false
  s_c stepG_skip
  s_c stepG_seq
  s_reg
  s_op
  s_op
  s_op
  s_op
  s_op
  s_c stepG_region_end
  s_c stepG_seq
  s_c stepG_seq
  s_reg
  s_op
  s_stop
  refine LoneTo.call (hcut _) rfl rfl (by decide) rfl Tryd.func35 (by kernel_rfl) (by kernel_rfl) (by simp [Act.eval]) ?_
  rintro _ _ ⟨rfl, rfl⟩
  refine ⟨_, rfl, ?_⟩
  walk_nrm
  refine LoneTo.goes (n := 30) ?_
  s_op
  s_op
  s_op
  s_op
  s_op
  s_c stepG_region_end
  s_c stepG_seq
  s_reg
  s_op
  s_c stepG_region_end
  s_cond true
  s_reg
  s_op
  s_op
  s_op
  s_op
  s_op
  s_op
  s_op
  s_c stepG_region_end
  s_c stepG_seq
  s_c stepG_seq
  s_reg
  s_op
  s_c stepG_region_end
  s_reg
  s_op
  s_c stepG_region_end
  s_c stepG_seq
  s_reg
  s_stop
  refine LoneTo.step (step_lone_select_send_room (cap := cap) (buf := buf) (s := s) (r := r) (tm := false) (stepG_comm (cases := #[scase cu (.string rest) (.string ⟨#[]⟩)]) (blocking := false) (shape := .select) (w' := w) rfl rfl (by decide) (by simp [go_sem, execOp, scase, Act.eval])) hc hroom) ?_
  rw [Frame.finish_at]
  walk_nrm
  refine LoneTo.goes (n := 10) ?_
  s_op
  s_op
  s_c stepG_region_end
  s_c stepG_block
  s_cond true
  s_c stepG_seq
  s_reg
  s_op
  s_c stepG_region_end
  s_c stepG_ret'
  s_stop
  refine LoneTo.done ⟨.returned (.bool true), _, rfl, ⟨rfl, rfl⟩, rfl, rfl, rfl, rfl, _, Tryd.func15, by simp [results, Tryd.f15, Frame.at]⟩
set_option maxRecDepth 100000 in
/-- an urgent line, without room -/
theorem put_u_full {w : World} {k cu cp cc cap s r s' r' cap' : Nat} {buf : Array Value} {l rest : ByteArray} (hcut : ∀ W, Calls Tryd.prog 35 #[.string l, .string ⟨#[33]⟩] W fun e w' => e = .returned (.tuple #[.string rest, .bool true]) ∧ W = w')
    (h0 : w.cell? ⟨k, 0, none⟩ = some (.chan (some cu))) (h1 : w.cell? ⟨k, 1, none⟩ = some (.chan (some cp))) (h2 : w.cell? ⟨k, 2, none⟩ = some (.chan (some cc))) (hs : w.heap[cc]? = some (.chan cap' #[] false s' r' false)) (hc : w.heap[cu]? = some (.chan cap buf false s r false)) (hfull : cap ≤ buf.size) :
    Calls Tryd.prog 15 #[.pointer (some ⟨k, 0, none⟩), .string l] w fun e w' => e = .returned (.bool false) ∧ w' = w := by
  refine calls_of_loneTo fun cs => ?_
  have e : Frame.enter Tryd.prog 15 #[.pointer (some ⟨k, 0, none⟩), .string l] .normal = (base 15).at ⟨#[.pointer (some ⟨k, 0, none⟩), .string l, undef, undef, undef, undef, undef, undef, undef, undef, undef, undef, undef, undef, undef, undef, undef, undef, undef, undef, undef, undef, undef, undef, undef, undef, undef, undef, undef, undef, undef, undef, undef, undef], []⟩ [.code (Tryd.f15.body.getD .skip)] := by
    simp [Frame.enter, Frame.at, Tryd.func15, base, Tryd.f15]
  rw [e]
  refine LoneTo.goes (n := 11) ?_
  simp only [Tryd.f15, Option.getD_some]
  s_c stepG_seq
  s_reg
  s_op
  s_c stepG_region_end
  s_c stepG_seq
  s_c stepG_seq
  s_reg
  s_op
  s_op
  s_op
  s_op
  s_stop
  refine LoneTo.call (over_open h2 hs) rfl rfl (by decide) rfl Tryd.func34 (by kernel_rfl) (by kernel_rfl) (by simp [Act.eval]) ?_
  rintro _ w1 ⟨rfl, hw1⟩
  obtain rfl : w = w1 := hw1.symm
  refine ⟨_, rfl, ?_⟩
  walk_nrm
  refine LoneTo.goes (n := 16) ?_
  s_op
  s_c stepG_region_end
  s_cond false
  s_c stepG_skip
  s_c stepG_seq
  s_reg
  s_op
  s_op
  s_op
  s_op
  s_op
  s_c stepG_region_end
  s_c stepG_seq
  s_c stepG_seq
  s_reg
  s_op
  s_stop
  refine LoneTo.call (hcut _) rfl rfl (by decide) rfl Tryd.func35 (by kernel_rfl) (by kernel_rfl) (by simp [Act.eval]) ?_
  rintro _ _ ⟨rfl, rfl⟩
  refine ⟨_, rfl, ?_⟩
  walk_nrm
  refine LoneTo.goes (n := 30) ?_
  s_op
  s_op
  s_op
  s_op
  s_op
  s_c stepG_region_end
  s_c stepG_seq
  s_reg
  s_op
  s_c stepG_region_end
  s_cond true
  s_reg
  s_op
  s_op
  s_op
  s_op
  s_op
  s_op
  s_op
  s_c stepG_region_end
  s_c stepG_seq
  s_c stepG_seq
  s_reg
  s_op
  s_c stepG_region_end
  s_reg
  s_op
  s_c stepG_region_end
  s_c stepG_seq
  s_reg
  s_stop
  refine LoneTo.step (step_lone_select_send_full (cap := cap) (buf := buf) (s := s) (r := r) (tm := false) (stepG_comm (cases := #[scase cu (.string rest) (.string ⟨#[]⟩)]) (blocking := false) (shape := .select) (w' := w) rfl rfl (by decide) (by simp [go_sem, execOp, scase, Act.eval])) hc hfull) ?_
  rw [Frame.finish_at]
  walk_nrm
  refine LoneTo.goes (n := 10) ?_
  s_op
  s_op
  s_c stepG_region_end
  s_c stepG_block
  s_cond false
  s_c stepG_seq
  s_reg
  s_op
  s_c stepG_region_end
  s_c stepG_ret'
  s_stop
  refine LoneTo.done ⟨.returned (.bool false), _, rfl, ⟨rfl, rfl⟩, rfl, rfl, rfl, rfl, _, Tryd.func15, by simp [results, Tryd.f15, Frame.at]⟩
set_option maxRecDepth 100000 in
/-- a plain line, with room -/
theorem put_p_room {w : World} {k cu cp cc cap s r s' r' cap' : Nat} {buf : Array Value} {l rest : ByteArray} (hcut : ∀ W, Calls Tryd.prog 35 #[.string l, .string ⟨#[33]⟩] W fun e w' => e = .returned (.tuple #[.string rest, .bool false]) ∧ W = w')
    (h0 : w.cell? ⟨k, 0, none⟩ = some (.chan (some cu))) (h1 : w.cell? ⟨k, 1, none⟩ = some (.chan (some cp))) (h2 : w.cell? ⟨k, 2, none⟩ = some (.chan (some cc))) (hs : w.heap[cc]? = some (.chan cap' #[] false s' r' false)) (hc : w.heap[cp]? = some (.chan cap buf false s r false)) (hroom : buf.size < cap) :
    Calls Tryd.prog 15 #[.pointer (some ⟨k, 0, none⟩), .string l] w fun e w' => e = .returned (.bool true) ∧ w' = w.setChan cp cap (buf.push (.string l)) false (s + 1) r false := by
  refine calls_of_loneTo fun cs => ?_
  have e : Frame.enter Tryd.prog 15 #[.pointer (some ⟨k, 0, none⟩), .string l] .normal = (base 15).at ⟨#[.pointer (some ⟨k, 0, none⟩), .string l, undef, undef, undef, undef, undef, undef, undef, undef, undef, undef, undef, undef, undef, undef, undef, undef, undef, undef, undef, undef, undef, undef, undef, undef, undef, undef, undef, undef, undef, undef, undef, undef], []⟩ [.code (Tryd.f15.body.getD .skip)] := by
    simp [Frame.enter, Frame.at, Tryd.func15, base, Tryd.f15]
  rw [e]
  refine LoneTo.goes (n := 11) ?_
  simp only [Tryd.f15, Option.getD_some]
  s_c stepG_seq
  s_reg
  s_op
  s_c stepG_region_end
  s_c stepG_seq
  s_c stepG_seq
  s_reg
  s_op
  s_op
  s_op
  s_op
  s_stop
  refine LoneTo.call (over_open h2 hs) rfl rfl (by decide) rfl Tryd.func34 (by kernel_rfl) (by kernel_rfl) (by simp [Act.eval]) ?_
  rintro _ w1 ⟨rfl, hw1⟩
  obtain rfl : w = w1 := hw1.symm
  refine ⟨_, rfl, ?_⟩
  walk_nrm
  refine LoneTo.goes (n := 16) ?_
  s_op
  s_c stepG_region_end
  s_cond false
  s_c stepG_skip
  s_c stepG_seq
  s_reg
  s_op
  s_op
  s_op
  s_op
  s_op
  s_c stepG_region_end
  s_c stepG_seq
  s_c stepG_seq
  s_reg
  s_op
  s_stop
  refine LoneTo.call (hcut _) rfl rfl (by decide) rfl Tryd.func35 (by kernel_rfl) (by kernel_rfl) (by simp [Act.eval]) ?_
  rintro _ _ ⟨rfl, rfl⟩
  refine ⟨_, rfl, ?_⟩
  walk_nrm
  refine LoneTo.goes (n := 22) ?_
  s_op
  s_op
  s_op
  s_op
  s_op
  s_c stepG_region_end
  s_c stepG_seq
  s_reg
  s_op
  s_c stepG_region_end
  s_cond false
  s_c stepG_skip
  s_c stepG_seq
  s_c stepG_seq
  s_reg
  s_op
  s_c stepG_region_end
  s_reg
  s_op
  s_c stepG_region_end
  s_c stepG_seq
  s_reg
  s_stop
  refine LoneTo.step (step_lone_select_send_room (cap := cap) (buf := buf) (s := s) (r := r) (tm := false) (stepG_comm (cases := #[scase cp (.string l) (.string ⟨#[]⟩)]) (blocking := false) (shape := .select) (w' := w) rfl rfl (by decide) (by simp [go_sem, execOp, scase, Act.eval])) hc hroom) ?_
  rw [Frame.finish_at]
  walk_nrm
  refine LoneTo.goes (n := 10) ?_
  s_op
  s_op
  s_c stepG_region_end
  s_c stepG_block
  s_cond true
  s_c stepG_seq
  s_reg
  s_op
  s_c stepG_region_end
  s_c stepG_ret'
  s_stop
  refine LoneTo.done ⟨.returned (.bool true), _, rfl, ⟨rfl, rfl⟩, rfl, rfl, rfl, rfl, _, Tryd.func15, by simp [results, Tryd.f15, Frame.at]⟩
set_option maxRecDepth 100000 in
/-- a plain line, without room -/
theorem put_p_full {w : World} {k cu cp cc cap s r s' r' cap' : Nat} {buf : Array Value} {l rest : ByteArray} (hcut : ∀ W, Calls Tryd.prog 35 #[.string l, .string ⟨#[33]⟩] W fun e w' => e = .returned (.tuple #[.string rest, .bool false]) ∧ W = w')
    (h0 : w.cell? ⟨k, 0, none⟩ = some (.chan (some cu))) (h1 : w.cell? ⟨k, 1, none⟩ = some (.chan (some cp))) (h2 : w.cell? ⟨k, 2, none⟩ = some (.chan (some cc))) (hs : w.heap[cc]? = some (.chan cap' #[] false s' r' false)) (hc : w.heap[cp]? = some (.chan cap buf false s r false)) (hfull : cap ≤ buf.size) :
    Calls Tryd.prog 15 #[.pointer (some ⟨k, 0, none⟩), .string l] w fun e w' => e = .returned (.bool false) ∧ w' = w := by
  refine calls_of_loneTo fun cs => ?_
  have e : Frame.enter Tryd.prog 15 #[.pointer (some ⟨k, 0, none⟩), .string l] .normal = (base 15).at ⟨#[.pointer (some ⟨k, 0, none⟩), .string l, undef, undef, undef, undef, undef, undef, undef, undef, undef, undef, undef, undef, undef, undef, undef, undef, undef, undef, undef, undef, undef, undef, undef, undef, undef, undef, undef, undef, undef, undef, undef, undef], []⟩ [.code (Tryd.f15.body.getD .skip)] := by
    simp [Frame.enter, Frame.at, Tryd.func15, base, Tryd.f15]
  rw [e]
  refine LoneTo.goes (n := 11) ?_
  simp only [Tryd.f15, Option.getD_some]
  s_c stepG_seq
  s_reg
  s_op
  s_c stepG_region_end
  s_c stepG_seq
  s_c stepG_seq
  s_reg
  s_op
  s_op
  s_op
  s_op
  s_stop
  refine LoneTo.call (over_open h2 hs) rfl rfl (by decide) rfl Tryd.func34 (by kernel_rfl) (by kernel_rfl) (by simp [Act.eval]) ?_
  rintro _ w1 ⟨rfl, hw1⟩
  obtain rfl : w = w1 := hw1.symm
  refine ⟨_, rfl, ?_⟩
  walk_nrm
  refine LoneTo.goes (n := 16) ?_
  s_op
  s_c stepG_region_end
  s_cond false
  s_c stepG_skip
  s_c stepG_seq
  s_reg
  s_op
  s_op
  s_op
  s_op
  s_op
  s_c stepG_region_end
  s_c stepG_seq
  s_c stepG_seq
  s_reg
  s_op
  s_stop
  refine LoneTo.call (hcut _) rfl rfl (by decide) rfl Tryd.func35 (by kernel_rfl) (by kernel_rfl) (by simp [Act.eval]) ?_
  rintro _ _ ⟨rfl, rfl⟩
  refine ⟨_, rfl, ?_⟩
  walk_nrm
  refine LoneTo.goes (n := 22) ?_
  s_op
  s_op
  s_op
  s_op
  s_op
  s_c stepG_region_end
  s_c stepG_seq
  s_reg
  s_op
  s_c stepG_region_end
  s_cond false
  s_c stepG_skip
  s_c stepG_seq
  s_c stepG_seq
  s_reg
  s_op
  s_c stepG_region_end
  s_reg
  s_op
  s_c stepG_region_end
  s_c stepG_seq
  s_reg
  s_stop
  refine LoneTo.step (step_lone_select_send_full (cap := cap) (buf := buf) (s := s) (r := r) (tm := false) (stepG_comm (cases := #[scase cp (.string l) (.string ⟨#[]⟩)]) (blocking := false) (shape := .select) (w' := w) rfl rfl (by decide) (by simp [go_sem, execOp, scase, Act.eval])) hc hfull) ?_
  rw [Frame.finish_at]
  walk_nrm
  refine LoneTo.goes (n := 10) ?_
  s_op
  s_op
  s_c stepG_region_end
  s_c stepG_block
  s_cond false
  s_c stepG_seq
  s_reg
  s_op
  s_c stepG_region_end
  s_c stepG_ret'
  s_stop
  refine LoneTo.done ⟨.returned (.bool false), _, rfl, ⟨rfl, rfl⟩, rfl, rfl, rfl, rfl, _, Tryd.func15, by simp [results, Tryd.f15, Frame.at]⟩
end Go.Proofs.YtdhdkfnmbdejbaaDoor
