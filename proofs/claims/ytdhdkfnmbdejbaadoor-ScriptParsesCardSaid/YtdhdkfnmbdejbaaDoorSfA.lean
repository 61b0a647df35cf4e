/- A feed's functions that select, each by the machine of one. No conditions. -/
import Derived.Test.YtdhdkfnmbdejbaaDoorChecked
import Derived.Conc.LoneSelect
import Derived.KernelRfl
import Derived.Laws.Rows
namespace Go.Proofs.YtdhdkfnmbdejbaaDoor
set_option linter.unusedVariables false
set_option linter.unusedSimpArgs false
open Go.Conc Go.RowKit

set_option maxRecDepth 100000 in
/-- over, of a feed that is open -/
theorem over_open {w : World} {k c cap s r : Nat} (h2 : w.cell? ⟨k, 2, none⟩ = some (.chan (some c))) (hc : w.heap[c]? = some (.chan cap #[] false s r false)) :
    Calls Tryd.prog 34 #[.pointer (some ⟨k, 0, none⟩)] w fun e w' => e = .returned (.bool false) ∧ w' = w := by
  refine calls_of_loneTo fun cs => ?_
  have e : Frame.enter Tryd.prog 34 #[.pointer (some ⟨k, 0, none⟩)] .normal = (base 34).at ⟨#[.pointer (some ⟨k, 0, none⟩), undef, undef, undef, undef, undef, undef, undef, undef, undef], []⟩ [.code (Tryd.f34.body.getD .skip)] := by
    simp [Frame.enter, Frame.at, Tryd.func34, base, Tryd.f34]
  rw [e]
  refine LoneTo.goes (n := 13) ?_
  simp only [Tryd.f34, Option.getD_some]
  s_c stepG_seq
  s_reg
  s_op
  s_c stepG_region_end
  s_c stepG_seq
  s_reg
  s_op
  s_op
  s_op
  s_op
  s_c stepG_region_end
  s_c stepG_seq
  s_reg
  s_stop
  refine LoneTo.step (step_lone_select_default (c := c) (z := .bool false) (cap := cap) (s := s) (r := r) (tm := false) (stepG_comm (cases := #[rcase c (.bool false)]) (blocking := false) (shape := .select) (w' := w) rfl rfl (by decide) (by simp [go_sem, execOp, rcase, Act.eval])) hc) ?_
  rw [Frame.finish_at]
  walk_nrm
  refine LoneTo.goes (n := 10) ?_
  s_op
  s_op
  s_c stepG_region_end
  s_c stepG_block
  s_cond false
  s_c stepG_seq
  s_reg
  s_op
  s_c stepG_region_end
  s_c stepG_ret'
  s_stop
  refine LoneTo.done ⟨.returned (.bool false), _, rfl, ⟨rfl, rfl⟩, rfl, rfl, rfl, rfl, _, Tryd.func34, by simp [results, Tryd.f34, Frame.at]⟩
set_option maxRecDepth 100000 in
/-- over, of a feed that is closed -/
theorem over_shut {w : World} {k c cap s r : Nat} (h2 : w.cell? ⟨k, 2, none⟩ = some (.chan (some c))) (hc : w.heap[c]? = some (.chan cap #[] true s r false)) :
    Calls Tryd.prog 34 #[.pointer (some ⟨k, 0, none⟩)] w fun e w' => e = .returned (.bool true) ∧ w' = w := by
  refine calls_of_loneTo fun cs => ?_
  have e : Frame.enter Tryd.prog 34 #[.pointer (some ⟨k, 0, none⟩)] .normal = (base 34).at ⟨#[.pointer (some ⟨k, 0, none⟩), undef, undef, undef, undef, undef, undef, undef, undef, undef], []⟩ [.code (Tryd.f34.body.getD .skip)] := by
    simp [Frame.enter, Frame.at, Tryd.func34, base, Tryd.f34]
  rw [e]
  refine LoneTo.goes (n := 13) ?_
  simp only [Tryd.f34, Option.getD_some]
  s_c stepG_seq
  s_reg
  s_op
  s_c stepG_region_end
  s_c stepG_seq
  s_reg
  s_op
  s_op
  s_op
  s_op
  s_c stepG_region_end
  s_c stepG_seq
  s_reg
  s_stop
  refine LoneTo.step (step_lone_select_recv_shut (c := c) (z := .bool false) (cap := cap) (s := s) (r := r) (tm := false) (stepG_comm (cases := #[rcase c (.bool false)]) (blocking := false) (shape := .select) (w' := w) rfl rfl (by decide) (by simp [go_sem, execOp, rcase, Act.eval])) hc) ?_
  rw [Frame.finish_at]
  walk_nrm
  refine LoneTo.goes (n := 10) ?_
  s_op
  s_op
  s_c stepG_region_end
  s_c stepG_block
  s_cond true
  s_c stepG_seq
  s_reg
  s_op
  s_c stepG_region_end
  s_c stepG_ret'
  s_stop
  refine LoneTo.done ⟨.returned (.bool true), _, rfl, ⟨rfl, rfl⟩, rfl, rfl, rfl, rfl, _, Tryd.func34, by simp [results, Tryd.f34, Frame.at]⟩
set_option maxRecDepth 100000 in
/-- first, of none -/
theorem first_none {w : World} {c cap s r : Nat} (hc : w.heap[c]? = some (.chan cap #[] false s r false)) :
    Calls Tryd.prog 36 #[.chan (some c)] w fun e w' => e = .returned (.tuple #[.string ⟨#[]⟩, .bool false]) ∧ w' = w := by
  refine calls_of_loneTo fun cs => ?_
  have e : Frame.enter Tryd.prog 36 #[.chan (some c)] .normal = (base 36).at ⟨#[.chan (some c), undef, undef, undef, undef, undef, undef, undef, undef, undef, undef], []⟩ [.code (Tryd.f36.body.getD .skip)] := by
    simp [Frame.enter, Frame.at, Tryd.func36, base, Tryd.f36]
  rw [e]
  refine LoneTo.goes (n := 11) ?_
  simp only [Tryd.f36, Option.getD_some]
  s_c stepG_seq
  s_reg
  s_op
  s_op
  s_c stepG_region_end
  s_c stepG_seq
  s_reg
  s_op
  s_c stepG_region_end
  s_c stepG_seq
  s_reg
  s_stop
  refine LoneTo.step (step_lone_select_default (c := c) (z := .string ⟨#[]⟩) (cap := cap) (s := s) (r := r) (tm := false) (stepG_comm (cases := #[rcase c (.string ⟨#[]⟩)]) (blocking := false) (shape := .select) (w' := w) rfl rfl (by decide) (by simp [go_sem, execOp, rcase, Act.eval])) hc) ?_
  rw [Frame.finish_at]
  walk_nrm
  refine LoneTo.goes (n := 11) ?_
  s_op
  s_op
  s_c stepG_region_end
  s_c stepG_block
  s_cond false
  s_c stepG_seq
  s_reg
  s_op
  s_op
  s_c stepG_region_end
  s_c stepG_ret'
  s_stop
  refine LoneTo.done ⟨.returned (.tuple #[.string ⟨#[]⟩, .bool false]), _, rfl, ⟨rfl, rfl⟩, rfl, rfl, rfl, rfl, _, Tryd.func36, by simp [results, Tryd.f36, Frame.at]⟩
set_option maxRecDepth 100000 in
/-- first, of some -/
theorem first_some {w : World} {c cap s r : Nat} {buf : Array Value} {x : Value} (hb : 0 < buf.size) (hx : buf.getD 0 undef = x) (hc : w.heap[c]? = some (.chan cap buf false s r false)) :
    Calls Tryd.prog 36 #[.chan (some c)] w fun e w' => e = .returned (.tuple #[x, .bool true]) ∧ w' = w.setChan c cap (buf.extract 1 buf.size) false s (r + 1) false := by
  refine calls_of_loneTo fun cs => ?_
  have e : Frame.enter Tryd.prog 36 #[.chan (some c)] .normal = (base 36).at ⟨#[.chan (some c), undef, undef, undef, undef, undef, undef, undef, undef, undef, undef], []⟩ [.code (Tryd.f36.body.getD .skip)] := by
    simp [Frame.enter, Frame.at, Tryd.func36, base, Tryd.f36]
  rw [e]
  refine LoneTo.goes (n := 11) ?_
  simp only [Tryd.f36, Option.getD_some]
  s_c stepG_seq
  s_reg
  s_op
  s_op
  s_c stepG_region_end
  s_c stepG_seq
  s_reg
  s_op
  s_c stepG_region_end
  s_c stepG_seq
  s_reg
  s_stop
  refine LoneTo.step (step_lone_select_recv_buf (c := c) (z := .string ⟨#[]⟩) (cap := cap) (s := s) (r := r) (tm := false) (buf := buf) (stepG_comm (cases := #[rcase c (.string ⟨#[]⟩)]) (blocking := false) (shape := .select) (w' := w) rfl rfl (by decide) (by simp [go_sem, execOp, rcase, Act.eval])) hc hb) ?_
  rw [Frame.finish_at, hx]
  walk_nrm
  refine LoneTo.goes (n := 17) ?_
  s_op
  s_op
  s_c stepG_region_end
  s_c stepG_block
  s_cond true
  s_c stepG_seq
  s_reg
  s_op
  s_op
  s_c stepG_region_end
  s_c stepG_seq
  s_reg
  s_op
  s_op
  s_op
  s_c stepG_region_end
  s_c stepG_ret'
  s_stop
  refine LoneTo.done ⟨.returned (.tuple #[x, .bool true]), _, rfl, ⟨rfl, rfl⟩, rfl, rfl, rfl, rfl, _, Tryd.func36, by simp [results, Tryd.f36, Frame.at]⟩
end Go.Proofs.YtdhdkfnmbdejbaaDoor
