/- Paths: a new control, and what it says: trees. No conditions. -/
import Derived.Test.YtenngklohffoaaaPthC
namespace Go.Proofs.Ytenngklohffoaaa
set_option linter.unusedVariables false
set_option linter.unusedSimpArgs false
open Go.RowKit Sym

structure CcFn where
  hnew : Func
  fnew : Func
  dnew : Func
  wnew : Func
  cof : Func
  new : Func
  trip : Func
  room : Func
  known : Func
  pipe : Func
  window : Func
  fpipe : Func
  dlen : Func
  size : Func
  begun : Func
def SCc (P : Program) (N : CcFn) : Tab := addI 33 P (onlyS P noS) noL N.wnew <| addI 43 P (onlyS P noS) noL N.cof noS
def FCc0 (P : Program) (N : CcFn) : LTab := addT 44 (inl P (onlyS P noS) noL N.dnew) noF
abbrev CCc0 (P : Program) (N : CcFn) : Cfg := both P noS (FCc0 P N) [44]
def FCc1 (P : Program) (N : CcFn) : LTab := addT 31 (inl P (onlyS P (SCc P N)) noL N.hnew) <| addT 32 (inl P (CCc0 P N) noL N.fnew) noF
abbrev CCc1 (P : Program) (N : CcFn) : Cfg := both P (SCc P N) (FCc1 P N) [31, 32]
set_option maxRecDepth 100000 in
theorem ccnew_run  : canT 0 (runF Try.prog (CCc1 Try.prog ⟨Try.f31, Try.f32, Try.f44, Try.f33, Try.f43, Try.f19, Try.f23, Try.f24, Try.f37, Try.f39, Try.f40, Try.f55, Try.f64, Try.f56, Try.f65⟩) noL Try.f19 (Try.f19.body.getD .skip) [.v (.int .i64 0)] []) = .leaf (.ptr 0 0, [.own [.ptr 1 0, .ptr 3 0, .v (.int .i64 3), .v (.int .i64 16), .v (.int .i64 0), SV.v (Value.bool false), .v (.int .i64 0), .c (.int .i64 0), .c (.int .i64 0), .c (.int .i64 0), .c (.int .i64 0), .c (.int .i64 0), SV.c (Value.bool false), .c (.int .i64 0), .c (.int .i64 0)], .own [.v (.int .i64 0), SV.ref 2, .c (.int .i64 0), .c (.int .i64 0)], Blk.vec false 4 1 1 [Value.bool true], .own [.ptr 4 0], .own [SV.v (Value.slice none 0 0), .v (.int .i64 64)]]) := by kernel_rfl
def STr (P : Program) (N : CcFn) : Tab := addI 37 P (onlyS P noS) noL N.known noS
def SSz0 (P : Program) (N : CcFn) : Tab := addI 33 P (onlyS P noS) noL N.wnew noS
def SSz1 (P : Program) (N : CcFn) : Tab := addI 65 P (onlyS P (SSz0 P N)) noL N.begun noS
def SSz (P : Program) (N : CcFn) : Tab := addI 56 P (onlyS P (SSz1 P N)) noL N.size noS
def FRo0 (P : Program) (N : CcFn) : LTab := addT 64 (inl P (onlyS P noS) noL N.dlen) noF
abbrev CRo0 (P : Program) (N : CcFn) : Cfg := both P noS (FRo0 P N) []
def FRo1 (P : Program) (N : CcFn) : LTab := addT 55 (inl P (CRo0 P N) noL N.fpipe) noF
abbrev CRo1 (P : Program) (N : CcFn) : Cfg := both P noS (FRo1 P N) []
def FRo2 (P : Program) (N : CcFn) : LTab := addT 39 (inl P (CRo1 P N) noL N.pipe) <| addT 40 (inl P (onlyS P (SSz P N)) noL N.window) noF
abbrev CRo2 (P : Program) (N : CcFn) : Cfg := both P noS (FRo2 P N) []
set_option maxRecDepth 100000 in
theorem cctrip_run  : trimT 5 (runF Try.prog (onlyS Try.prog (STr Try.prog ⟨Try.f31, Try.f32, Try.f44, Try.f33, Try.f43, Try.f19, Try.f23, Try.f24, Try.f37, Try.f39, Try.f40, Try.f55, Try.f64, Try.f56, Try.f65⟩)) noL Try.f23 (Try.f23.body.getD .skip) [.ptr 0 0] [.own [.ptr 1 0, .ptr 3 0, .v (.int .i64 3), .v (.int .i64 16), .v (.int .i64 0), .v (.bool false), .v (.int .i64 0), .v (.int .i64 0), .v (.int .i64 0), .v (.int .i64 0), .v (.int .i64 0), .v (.int .i64 0), .v (.bool false), .v (.int .i64 0), .v (.int .i64 0)], .own [.v (.int .i64 0), .ref 2, .v (.int .i64 0), .v (.int .i64 0)], .vec false 4 1 1 [.bool true], .own [.ptr 4 0], .own [.v (.slice none 0 0), .v (.int .i64 64)]]) = .ite true (.leaf (.c (.int .i64 8), [.own [.ptr 1 0, .ptr 3 0, .v (.int .i64 3), .v (.int .i64 16), .v (.int .i64 0), SV.v (Value.bool false), .v (.int .i64 0), .v (.int .i64 0), .v (.int .i64 0), .v (.int .i64 0), .v (.int .i64 0), .v (.int .i64 0), SV.v (Value.bool false), .v (.int .i64 0), .v (.int .i64 0)], .own [.v (.int .i64 0), SV.ref 2, .v (.int .i64 0), .v (.int .i64 0)], Blk.vec false 4 1 1 [Value.bool true], .own [.ptr 4 0], .own [SV.v (Value.slice none 0 0), .v (.int .i64 64)]])) (T.stuck 1038) := by kernel_rfl
set_option maxRecDepth 100000 in
theorem ccroom_run  : trimT 5 (runF Try.prog (CRo2 Try.prog ⟨Try.f31, Try.f32, Try.f44, Try.f33, Try.f43, Try.f19, Try.f23, Try.f24, Try.f37, Try.f39, Try.f40, Try.f55, Try.f64, Try.f56, Try.f65⟩) noL Try.f24 (Try.f24.body.getD .skip) [.ptr 0 0] [.own [.ptr 1 0, .ptr 3 0, .v (.int .i64 3), .v (.int .i64 16), .v (.int .i64 0), .v (.bool false), .v (.int .i64 0), .v (.int .i64 0), .v (.int .i64 0), .v (.int .i64 0), .v (.int .i64 0), .v (.int .i64 0), .v (.bool false), .v (.int .i64 0), .v (.int .i64 0)], .own [.v (.int .i64 0), .ref 2, .v (.int .i64 0), .v (.int .i64 0)], .vec false 4 1 1 [.bool true], .own [.ptr 4 0], .own [.v (.slice none 0 0), .v (.int .i64 64)]]) = .ite false (.leaf (SV.v (Value.bool true), [.own [.ptr 1 0, .ptr 3 0, .v (.int .i64 3), .v (.int .i64 16), .v (.int .i64 0), SV.v (Value.bool false), .v (.int .i64 0), .v (.int .i64 0), .v (.int .i64 0), .v (.int .i64 0), .v (.int .i64 0), .v (.int .i64 0), SV.v (Value.bool false), .v (.int .i64 0), .v (.int .i64 0)], .own [.v (.int .i64 0), SV.ref 2, .v (.int .i64 0), .v (.int .i64 0)], Blk.vec false 4 1 1 [Value.bool true], .own [.ptr 4 0], .own [SV.v (Value.slice none 0 0), .v (.int .i64 64)]])) (.leaf (SV.v (Value.bool true), [.own [.ptr 1 0, .ptr 3 0, .v (.int .i64 3), .v (.int .i64 16), .v (.int .i64 0), SV.v (Value.bool false), .v (.int .i64 0), .v (.int .i64 0), .v (.int .i64 0), .v (.int .i64 0), .v (.int .i64 0), .v (.int .i64 0), SV.v (Value.bool false), .v (.int .i64 0), .v (.int .i64 0)], .own [.v (.int .i64 0), SV.ref 2, .v (.int .i64 0), .v (.int .i64 0)], Blk.vec false 4 1 1 [Value.bool true], .own [.ptr 4 0], .own [SV.v (Value.slice none 0 0), .v (.int .i64 64)]])) := by kernel_rfl
end Go.Proofs.Ytenngklohffoaaa
