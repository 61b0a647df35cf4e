/- Paths: a new control, and what it says. No conditions. -/
import Derived.Test.YtenngklohffoaaaPthU
namespace Go.Proofs.Ytenngklohffoaaa
set_option linter.unusedVariables false
set_option linter.unusedSimpArgs false
open Go.RowKit Sym

def memCc : List Blk := [.own [.ptr 1 0, .ptr 3 0, .v (.int .i64 3), .v (.int .i64 16), .v (.int .i64 0), .v (.bool false), .v (.int .i64 0), .v (.int .i64 0), .v (.int .i64 0), .v (.int .i64 0), .v (.int .i64 0), .v (.int .i64 0), .v (.bool false), .v (.int .i64 0), .v (.int .i64 0)], .own [.v (.int .i64 0), .ref 2, .v (.int .i64 0), .v (.int .i64 0)], .vec false 4 1 1 [.bool true], .own [.ptr 4 0], .own [.v (.slice none 0 0), .v (.int .i64 64)]]
theorem SCc_ok : TabOk Try.prog (SCc Try.prog ⟨Try.f31, Try.f32, Try.f44, Try.f33, Try.f43, Try.f19, Try.f23, Try.f24, Try.f37, Try.f39, Try.f40, Try.f55, Try.f64, Try.f56, Try.f65⟩) := addI_ok (addI_ok noS_ok (onlyS_ok noS_ok) follows Try.func43 (by kernel_rfl) (by kernel_rfl) (lexAllF_ok (by kernel_rfl)) (noloops (by kernel_rfl))) (onlyS_ok noS_ok) follows Try.func33 (by kernel_rfl) (by kernel_rfl) (lexAllF_ok (by kernel_rfl)) (noloops (by kernel_rfl))
theorem FCc0_ok : LOk Try.prog (FCc0 Try.prog ⟨Try.f31, Try.f32, Try.f44, Try.f33, Try.f43, Try.f19, Try.f23, Try.f24, Try.f37, Try.f39, Try.f40, Try.f55, Try.f64, Try.f56, Try.f65⟩) := addT_ok noF_ok (by kernel_rfl) (inl_ok (onlyS_ok noS_ok) follows Try.func44 (by kernel_rfl) (lexAllF_ok (by kernel_rfl)) (noloops (by kernel_rfl)))
theorem CCc0_ok : CfgOk Try.prog (CCc0 Try.prog ⟨Try.f31, Try.f32, Try.f44, Try.f33, Try.f43, Try.f19, Try.f23, Try.f24, Try.f37, Try.f39, Try.f40, Try.f55, Try.f64, Try.f56, Try.f65⟩) := both_ok noS_ok FCc0_ok
theorem FCc1_ok : LOk Try.prog (FCc1 Try.prog ⟨Try.f31, Try.f32, Try.f44, Try.f33, Try.f43, Try.f19, Try.f23, Try.f24, Try.f37, Try.f39, Try.f40, Try.f55, Try.f64, Try.f56, Try.f65⟩) := addT_ok (addT_ok noF_ok (by kernel_rfl) (inl_ok CCc0_ok follows Try.func32 (by kernel_rfl) (lexAllF_ok (by kernel_rfl)) (noloops (by kernel_rfl)))) (by kernel_rfl) (inl_ok (onlyS_ok SCc_ok) follows Try.func31 (by kernel_rfl) (lexAllF_ok (by kernel_rfl)) (noloops (by kernel_rfl)))
theorem ccnew (w : World) : Calls Try.prog 19 #[.int .i64 0] w fun e w' => ∃ B x, e = .returned x ∧ (SV.ptr 0 0).to B = some x ∧ Mem w [] memCc B w' := by
  refine (canT_ok (both_ok SCc_ok FCc1_ok) follows Try.func19 (by kernel_rfl) (lexAllF_ok (by kernel_rfl)) (noloops (by kernel_rfl)) ccnew_run (mem_nilQ w) rfl (Qs := fun r => r.1 = .ptr 0 0 ∧ r.2.map openBlk = memCc) (t_leaf ⟨rfl, rfl⟩)).mono ?_
  rintro e w' ⟨s, H', B', x, ⟨h1, h2⟩, -, rfl, hx, hm⟩
  simp only at h1 h2
  subst h1
  refine ⟨B', x, rfl, hx, ?_⟩
  rw [← h2]
  exact openBlk_mem hm
theorem STr_ok : TabOk Try.prog (STr Try.prog ⟨Try.f31, Try.f32, Try.f44, Try.f33, Try.f43, Try.f19, Try.f23, Try.f24, Try.f37, Try.f39, Try.f40, Try.f55, Try.f64, Try.f56, Try.f65⟩) := addI_ok noS_ok (onlyS_ok noS_ok) follows Try.func37 (by kernel_rfl) (by kernel_rfl) (lexAllF_ok (by kernel_rfl)) (noloops (by kernel_rfl))
theorem SSz0_ok : TabOk Try.prog (SSz0 Try.prog ⟨Try.f31, Try.f32, Try.f44, Try.f33, Try.f43, Try.f19, Try.f23, Try.f24, Try.f37, Try.f39, Try.f40, Try.f55, Try.f64, Try.f56, Try.f65⟩) := addI_ok noS_ok (onlyS_ok noS_ok) follows Try.func33 (by kernel_rfl) (by kernel_rfl) (lexAllF_ok (by kernel_rfl)) (noloops (by kernel_rfl))
theorem SSz1_ok : TabOk Try.prog (SSz1 Try.prog ⟨Try.f31, Try.f32, Try.f44, Try.f33, Try.f43, Try.f19, Try.f23, Try.f24, Try.f37, Try.f39, Try.f40, Try.f55, Try.f64, Try.f56, Try.f65⟩) := addI_ok noS_ok (onlyS_ok SSz0_ok) follows Try.func65 (by kernel_rfl) (by kernel_rfl) (lexAllF_ok (by kernel_rfl)) (noloops (by kernel_rfl))
theorem SSz_ok : TabOk Try.prog (SSz Try.prog ⟨Try.f31, Try.f32, Try.f44, Try.f33, Try.f43, Try.f19, Try.f23, Try.f24, Try.f37, Try.f39, Try.f40, Try.f55, Try.f64, Try.f56, Try.f65⟩) := addI_ok noS_ok (onlyS_ok SSz1_ok) follows Try.func56 (by kernel_rfl) (by kernel_rfl) (lexAllF_ok (by kernel_rfl)) (noloops (by kernel_rfl))
theorem FRo0_ok : LOk Try.prog (FRo0 Try.prog ⟨Try.f31, Try.f32, Try.f44, Try.f33, Try.f43, Try.f19, Try.f23, Try.f24, Try.f37, Try.f39, Try.f40, Try.f55, Try.f64, Try.f56, Try.f65⟩) := addT_ok noF_ok (by kernel_rfl) (inl_ok (onlyS_ok noS_ok) follows Try.func64 (by kernel_rfl) (lexAllF_ok (by kernel_rfl)) (noloops (by kernel_rfl)))
theorem CRo0_ok : CfgOk Try.prog (CRo0 Try.prog ⟨Try.f31, Try.f32, Try.f44, Try.f33, Try.f43, Try.f19, Try.f23, Try.f24, Try.f37, Try.f39, Try.f40, Try.f55, Try.f64, Try.f56, Try.f65⟩) := both_ok noS_ok FRo0_ok
theorem FRo1_ok : LOk Try.prog (FRo1 Try.prog ⟨Try.f31, Try.f32, Try.f44, Try.f33, Try.f43, Try.f19, Try.f23, Try.f24, Try.f37, Try.f39, Try.f40, Try.f55, Try.f64, Try.f56, Try.f65⟩) := addT_ok noF_ok (by kernel_rfl) (inl_ok CRo0_ok follows Try.func55 (by kernel_rfl) (lexAllF_ok (by kernel_rfl)) (noloops (by kernel_rfl)))
theorem CRo1_ok : CfgOk Try.prog (CRo1 Try.prog ⟨Try.f31, Try.f32, Try.f44, Try.f33, Try.f43, Try.f19, Try.f23, Try.f24, Try.f37, Try.f39, Try.f40, Try.f55, Try.f64, Try.f56, Try.f65⟩) := both_ok noS_ok FRo1_ok
theorem FRo2_ok : LOk Try.prog (FRo2 Try.prog ⟨Try.f31, Try.f32, Try.f44, Try.f33, Try.f43, Try.f19, Try.f23, Try.f24, Try.f37, Try.f39, Try.f40, Try.f55, Try.f64, Try.f56, Try.f65⟩) := addT_ok (addT_ok noF_ok (by kernel_rfl) (inl_ok (onlyS_ok SSz_ok) follows Try.func40 (by kernel_rfl) (lexAllF_ok (by kernel_rfl)) (noloops (by kernel_rfl)))) (by kernel_rfl) (inl_ok CRo1_ok follows Try.func39 (by kernel_rfl) (lexAllF_ok (by kernel_rfl)) (noloops (by kernel_rfl)))
/-- what a new control says -/
theorem cctrip {w : World} {bs : List Nat} {B : List Value} {x : Value} (hm : Mem w bs memCc B w) (hx : (SV.ptr 0 0).to B = some x) : Calls Try.prog 23 #[x] w fun e w' => e = .returned (.int .i64 8) ∧ ∃ B', B <+: B' ∧ Mem w bs memCc B' w' := by
  refine (trimT_ok (onlyS_ok STr_ok) follows Try.func23 (by kernel_rfl) (lexAllF_ok (by kernel_rfl)) (noloops (by kernel_rfl)) cctrip_run hm (vs := [x]) (by simp only [SV.tos, hx]) (Qs := fun r => r.1 = .c (.int .i64 8) ∧ r.2 = memCc) (t_ite (fun _ => t_leaf ⟨rfl, rfl⟩) fun h => by cases h)).mono ?_
  rintro e w' ⟨s, H', B', y, ⟨h1, h2⟩, hp, rfl, hy, hm'⟩
  simp only at h1 h2
  subst h1 h2
  simp only [SV.to, Option.some.injEq] at hy
  exact ⟨by rw [← hy], B', hp, hm'⟩
theorem ccroom {w : World} {bs : List Nat} {B : List Value} {x : Value} (hm : Mem w bs memCc B w) (hx : (SV.ptr 0 0).to B = some x) : Calls Try.prog 24 #[x] w fun e w' => e = .returned (.bool true) ∧ ∃ B', B <+: B' ∧ Mem w bs memCc B' w' := by
  refine (trimT_ok (both_ok noS_ok FRo2_ok) follows Try.func24 (by kernel_rfl) (lexAllF_ok (by kernel_rfl)) (noloops (by kernel_rfl)) ccroom_run hm (vs := [x]) (by simp only [SV.tos, hx]) (Qs := fun r => r.1 = .v (.bool true) ∧ r.2 = memCc) (t_ite (fun h => by cases h) fun _ => t_leaf ⟨rfl, rfl⟩)).mono ?_
  rintro e w' ⟨s, H', B', y, ⟨h1, h2⟩, hp, rfl, hy, hm'⟩
  simp only at h1 h2
  subst h1 h2
  simp only [SV.to, Option.some.injEq] at hy
  exact ⟨by rw [← hy], B', hp, hm'⟩
end Go.Proofs.Ytenngklohffoaaa
