/- Two sides of a connection: the functions of package conn in their callers' places. No conditions. -/
import Derived.Test.YtodfcalaggfldaaCnP
import Derived.Test.YtodfcalaggfldaaCnL
namespace Go.Proofs.Ytodfcalaggfldaa
set_option linter.unusedVariables false
set_option linter.unusedSimpArgs false
open Go.RowKit Sym Go.ChangeShapes Go.WideShapes Go.ChangeMaps

structure CnFn where
  brief_ : Func
  ending_ : Func
  State_ : Func
  end_ : Func
  numbers_ : Func
  wait_ : Func
  said_ : Func
  send_ : Func
  may_ : Func
  request_ : Func
  greeting_ : Func
  closeSide_ : Func
  reset_ : Func
  valid_ : Func
  turn_ : Func
  answered_ : Func
  Greet_ : Func
  Say_ : Func
  Close_ : Func
  Take_ : Func
  Tick_ : Func
  Dial_ : Func
  Adopt_ : Func
abbrev FK0 : LTab := addT 26 fClone <| addT 21 (fZero (rdP CkPL fun p n f => .int .i64 (chkP p n (opF f)))) <| addT 25 (fZero (rd1 2 OpP fun n f => .int .i64 (chkO n (opF f)))) <| addT 75 (fZero (rdV tValid)) <| addT 72 (fTrue (rdV tCWithin)) <| addT 74 fAcks <| addT 71 fBeg <| addT 42 fTk0 <| addT 8 fOuts noF
theorem FK0_ok : LOk Try.prog FK0 :=
  addT_ok (addT_ok (addT_ok (addT_ok (addT_ok (addT_ok (addT_ok (addT_ok (addT_ok noF_ok
    (by kernel_rfl) fOuts_ok)
    (by kernel_rfl) fTk0_ok)
    (by kernel_rfl) fBeg_ok)
    (by kernel_rfl) fAcks_ok)
    (by kernel_rfl) (fTrue_ok (rdV_ok fun xs p v h hp w => by
      unfold tCWithin at h
      split at h
      · simp only [Option.some.injEq, Prod.mk.injEq] at h; obtain ⟨rfl, rfl⟩ := h; exact of_same (circ_within _ _ _ w)
      · cases h)))
    (by kernel_rfl) (fZero_ok (rdV_ok fun xs p v h hp w => by
      unfold tValid at h
      split at h
      · simp only [Option.some.injEq, Prod.mk.injEq] at h; obtain ⟨rfl, rfl⟩ := h; exact span_valid ⟨_, _, _, _, _⟩ _ _ _ w
      · cases h)))
    (by kernel_rfl) (fZero_ok (rd1_ok fun n f v w hv hp => opts_Check n (opF f) hp.2 v w (op_row hv hp.1))))
    (by kernel_rfl) (fZero_ok (rdP_ok fun p n fr o w hv hp => packet_Check p n fr hp o w hv)))
    (by kernel_rfl) fClone_ok
abbrev fsK0 : List Nat := [26, 21, 25, 75, 72, 74, 71, 42, 8]
abbrev CK0 (P : Program) : Cfg := both P SCn0 FK0 fsK0
theorem CK0_ok : CfgOk Try.prog (CK0 Try.prog) := both_ok SCn0_ok FK0_ok
def FK1 (P : Program) (Z : CnFn) : LTab := addT 79 (closeE (inl P (CK0 P) noL Z.brief_)) <| addT 81 (closeE (inl P (CK0 P) noL Z.ending_)) <| addT 14 (closeE (inl P (CK0 P) noL Z.State_)) <| addT 41 (closeE (inl P (CK0 P) noL Z.end_)) <| addT 32 (closeE (inl P (CK0 P) noL Z.numbers_)) <| addT 29 (closeE (inl P (CK0 P) noL Z.wait_)) <| addT 43 (closeE (inl P (CK0 P) noL Z.said_)) <| FK0
abbrev fsK1 : List Nat := 79 :: 81 :: 14 :: 41 :: 32 :: 29 :: 43 :: fsK0
abbrev CK1 (P : Program) (Z : CnFn) : Cfg := both P SCn0 (FK1 P Z) fsK1
theorem EK_said : EntryOk Try.prog 43 (closeE (inl Try.prog (CK0 Try.prog) noL Try.f43)) := closeE_ok (inl_ok CK0_ok follows Try.func43 (by kernel_rfl) (lexAllF_ok (by kernel_rfl)) (noloops (by kernel_rfl)))
theorem EK_wait : EntryOk Try.prog 29 (closeE (inl Try.prog (CK0 Try.prog) noL Try.f29)) := closeE_ok (inl_ok CK0_ok follows Try.func29 (by kernel_rfl) (lexAllF_ok (by kernel_rfl)) (noloops (by kernel_rfl)))
theorem EK_numbers : EntryOk Try.prog 32 (closeE (inl Try.prog (CK0 Try.prog) noL Try.f32)) := closeE_ok (inl_ok CK0_ok follows Try.func32 (by kernel_rfl) (lexAllF_ok (by kernel_rfl)) (noloops (by kernel_rfl)))
theorem EK_end : EntryOk Try.prog 41 (closeE (inl Try.prog (CK0 Try.prog) noL Try.f41)) := closeE_ok (inl_ok CK0_ok follows Try.func41 (by kernel_rfl) (lexAllF_ok (by kernel_rfl)) (noloops (by kernel_rfl)))
theorem EK_State : EntryOk Try.prog 14 (closeE (inl Try.prog (CK0 Try.prog) noL Try.f14)) := closeE_ok (inl_ok CK0_ok follows Try.func14 (by kernel_rfl) (lexAllF_ok (by kernel_rfl)) (noloops (by kernel_rfl)))
theorem EK_ending : EntryOk Try.prog 81 (closeE (inl Try.prog (CK0 Try.prog) noL Try.f81)) := closeE_ok (inl_ok CK0_ok follows Try.func81 (by kernel_rfl) (lexAllF_ok (by kernel_rfl)) (noloops (by kernel_rfl)))
theorem EK_brief : EntryOk Try.prog 79 (closeE (inl Try.prog (CK0 Try.prog) noL Try.f79)) := closeE_ok (inl_ok CK0_ok follows Try.func79 (by kernel_rfl) (lexAllF_ok (by kernel_rfl)) (noloops (by kernel_rfl)))
theorem FK1_ok : LOk Try.prog (FK1 Try.prog (CnFn.mk Try.f79 Try.f81 Try.f14 Try.f41 Try.f32 Try.f29 Try.f43 Try.f39 Try.f37 Try.f30 Try.f36 Try.f40 Try.f44 Try.f33 Try.f35 Try.f31 Try.f11 Try.f13 Try.f15 Try.f9 Try.f16 Try.f6 Try.f7)) := addT_ok (addT_ok (addT_ok (addT_ok (addT_ok (addT_ok (addT_ok (FK0_ok) (by kernel_rfl) EK_said) (by kernel_rfl) EK_wait) (by kernel_rfl) EK_numbers) (by kernel_rfl) EK_end) (by kernel_rfl) EK_State) (by kernel_rfl) EK_ending) (by kernel_rfl) EK_brief
theorem CK1_ok : CfgOk Try.prog (CK1 Try.prog (CnFn.mk Try.f79 Try.f81 Try.f14 Try.f41 Try.f32 Try.f29 Try.f43 Try.f39 Try.f37 Try.f30 Try.f36 Try.f40 Try.f44 Try.f33 Try.f35 Try.f31 Try.f11 Try.f13 Try.f15 Try.f9 Try.f16 Try.f6 Try.f7)) := both_ok SCn0_ok FK1_ok
def FK2 (P : Program) (Z : CnFn) : LTab := addT 39 (closeE (inl P (CK1 P Z) noL Z.send_)) <| addT 37 (closeE (inl P (CK1 P Z) noL Z.may_)) <| FK1 P Z
abbrev fsK2 : List Nat := 39 :: 37 :: fsK1
abbrev CK2 (P : Program) (Z : CnFn) : Cfg := both P SCn0 (FK2 P Z) fsK2
theorem EK_may : EntryOk Try.prog 37 (closeE (inl Try.prog (CK1 Try.prog (CnFn.mk Try.f79 Try.f81 Try.f14 Try.f41 Try.f32 Try.f29 Try.f43 Try.f39 Try.f37 Try.f30 Try.f36 Try.f40 Try.f44 Try.f33 Try.f35 Try.f31 Try.f11 Try.f13 Try.f15 Try.f9 Try.f16 Try.f6 Try.f7)) noL Try.f37)) := closeE_ok (inl_ok CK1_ok follows Try.func37 (by kernel_rfl) (lexAllF_ok (by kernel_rfl)) (noloops (by kernel_rfl)))
theorem EK_send : EntryOk Try.prog 39 (closeE (inl Try.prog (CK1 Try.prog (CnFn.mk Try.f79 Try.f81 Try.f14 Try.f41 Try.f32 Try.f29 Try.f43 Try.f39 Try.f37 Try.f30 Try.f36 Try.f40 Try.f44 Try.f33 Try.f35 Try.f31 Try.f11 Try.f13 Try.f15 Try.f9 Try.f16 Try.f6 Try.f7)) noL Try.f39)) := closeE_ok (inl_ok CK1_ok follows Try.func39 (by kernel_rfl) (lexAllF_ok (by kernel_rfl)) (noloops (by kernel_rfl)))
theorem FK2_ok : LOk Try.prog (FK2 Try.prog (CnFn.mk Try.f79 Try.f81 Try.f14 Try.f41 Try.f32 Try.f29 Try.f43 Try.f39 Try.f37 Try.f30 Try.f36 Try.f40 Try.f44 Try.f33 Try.f35 Try.f31 Try.f11 Try.f13 Try.f15 Try.f9 Try.f16 Try.f6 Try.f7)) := addT_ok (addT_ok (FK1_ok) (by kernel_rfl) EK_may) (by kernel_rfl) EK_send
theorem CK2_ok : CfgOk Try.prog (CK2 Try.prog (CnFn.mk Try.f79 Try.f81 Try.f14 Try.f41 Try.f32 Try.f29 Try.f43 Try.f39 Try.f37 Try.f30 Try.f36 Try.f40 Try.f44 Try.f33 Try.f35 Try.f31 Try.f11 Try.f13 Try.f15 Try.f9 Try.f16 Try.f6 Try.f7)) := both_ok SCn0_ok FK2_ok
/-- a region that draws its order beside a call that only reads -/
abbrev CKm (P : Program) (Z : CnFn) : Cfg := ⟨SCn0, addG 81 gEnding (liftG (FK2 P Z)), effE P fsK2, [], []⟩
theorem CKm_ok : CfgOk Try.prog (CKm Try.prog (CnFn.mk Try.f79 Try.f81 Try.f14 Try.f41 Try.f32 Try.f29 Try.f43 Try.f39 Try.f37 Try.f30 Try.f36 Try.f40 Try.f44 Try.f33 Try.f35 Try.f31 Try.f11 Try.f13 Try.f15 Try.f9 Try.f16 Try.f6 Try.f7)) := ⟨SCn0_ok, addG_ok (liftG_ok FK2_ok) (by kernel_rfl) gEnding_ok⟩
def FK3 (P : Program) (Z : CnFn) : LTab := addT 30 (closeE (inl P (CK2 P Z) noL Z.request_)) <| addT 36 (closeE (inl P (CK2 P Z) noL Z.greeting_)) <| addT 40 (closeE (inl P (CKm P Z) noL Z.closeSide_)) <| addT 44 (closeE (inl P (CK2 P Z) noL Z.reset_)) <| FK2 P Z
abbrev fsK3 : List Nat := 30 :: 36 :: 40 :: 44 :: fsK2
abbrev CK3 (P : Program) (Z : CnFn) : Cfg := both P SCn0 (FK3 P Z) fsK3
theorem EK_reset : EntryOk Try.prog 44 (closeE (inl Try.prog (CK2 Try.prog (CnFn.mk Try.f79 Try.f81 Try.f14 Try.f41 Try.f32 Try.f29 Try.f43 Try.f39 Try.f37 Try.f30 Try.f36 Try.f40 Try.f44 Try.f33 Try.f35 Try.f31 Try.f11 Try.f13 Try.f15 Try.f9 Try.f16 Try.f6 Try.f7)) noL Try.f44)) := closeE_ok (inl_ok CK2_ok follows Try.func44 (by kernel_rfl) (lexAllF_ok (by kernel_rfl)) (noloops (by kernel_rfl)))
theorem EK_closeSide : EntryOk Try.prog 40 (closeE (inl Try.prog (CKm Try.prog (CnFn.mk Try.f79 Try.f81 Try.f14 Try.f41 Try.f32 Try.f29 Try.f43 Try.f39 Try.f37 Try.f30 Try.f36 Try.f40 Try.f44 Try.f33 Try.f35 Try.f31 Try.f11 Try.f13 Try.f15 Try.f9 Try.f16 Try.f6 Try.f7)) noL Try.f40)) := closeE_ok (inl_ok CKm_ok follows Try.func40 (by kernel_rfl) (lexAllF_ok (by kernel_rfl)) (noloops (by kernel_rfl)))
theorem EK_greeting : EntryOk Try.prog 36 (closeE (inl Try.prog (CK2 Try.prog (CnFn.mk Try.f79 Try.f81 Try.f14 Try.f41 Try.f32 Try.f29 Try.f43 Try.f39 Try.f37 Try.f30 Try.f36 Try.f40 Try.f44 Try.f33 Try.f35 Try.f31 Try.f11 Try.f13 Try.f15 Try.f9 Try.f16 Try.f6 Try.f7)) noL Try.f36)) := closeE_ok (inl_ok CK2_ok follows Try.func36 (by kernel_rfl) (lexAllF_ok (by kernel_rfl)) (noloops (by kernel_rfl)))
theorem EK_request : EntryOk Try.prog 30 (closeE (inl Try.prog (CK2 Try.prog (CnFn.mk Try.f79 Try.f81 Try.f14 Try.f41 Try.f32 Try.f29 Try.f43 Try.f39 Try.f37 Try.f30 Try.f36 Try.f40 Try.f44 Try.f33 Try.f35 Try.f31 Try.f11 Try.f13 Try.f15 Try.f9 Try.f16 Try.f6 Try.f7)) noL Try.f30)) := closeE_ok (inl_ok CK2_ok follows Try.func30 (by kernel_rfl) (lexAllF_ok (by kernel_rfl)) (noloops (by kernel_rfl)))
theorem FK3_ok : LOk Try.prog (FK3 Try.prog (CnFn.mk Try.f79 Try.f81 Try.f14 Try.f41 Try.f32 Try.f29 Try.f43 Try.f39 Try.f37 Try.f30 Try.f36 Try.f40 Try.f44 Try.f33 Try.f35 Try.f31 Try.f11 Try.f13 Try.f15 Try.f9 Try.f16 Try.f6 Try.f7)) := addT_ok (addT_ok (addT_ok (addT_ok (FK2_ok) (by kernel_rfl) EK_reset) (by kernel_rfl) EK_closeSide) (by kernel_rfl) EK_greeting) (by kernel_rfl) EK_request
theorem CK3_ok : CfgOk Try.prog (CK3 Try.prog (CnFn.mk Try.f79 Try.f81 Try.f14 Try.f41 Try.f32 Try.f29 Try.f43 Try.f39 Try.f37 Try.f30 Try.f36 Try.f40 Try.f44 Try.f33 Try.f35 Try.f31 Try.f11 Try.f13 Try.f15 Try.f9 Try.f16 Try.f6 Try.f7)) := both_ok SCn0_ok FK3_ok
def FK4 (P : Program) (Z : CnFn) : LTab := addT 33 (closeE (inl P (CK3 P Z) noL Z.valid_)) <| addT 35 (closeE (inl P (CK3 P Z) noL Z.turn_)) <| addT 31 (closeE (inl P (CK3 P Z) noL Z.answered_)) <| FK3 P Z
abbrev fsK4 : List Nat := 33 :: 35 :: 31 :: fsK3
abbrev CK4 (P : Program) (Z : CnFn) : Cfg := both P SCn0 (FK4 P Z) fsK4
theorem EK_answered : EntryOk Try.prog 31 (closeE (inl Try.prog (CK3 Try.prog (CnFn.mk Try.f79 Try.f81 Try.f14 Try.f41 Try.f32 Try.f29 Try.f43 Try.f39 Try.f37 Try.f30 Try.f36 Try.f40 Try.f44 Try.f33 Try.f35 Try.f31 Try.f11 Try.f13 Try.f15 Try.f9 Try.f16 Try.f6 Try.f7)) noL Try.f31)) := closeE_ok (inl_ok CK3_ok follows Try.func31 (by kernel_rfl) (lexAllF_ok (by kernel_rfl)) (noloops (by kernel_rfl)))
theorem EK_turn : EntryOk Try.prog 35 (closeE (inl Try.prog (CK3 Try.prog (CnFn.mk Try.f79 Try.f81 Try.f14 Try.f41 Try.f32 Try.f29 Try.f43 Try.f39 Try.f37 Try.f30 Try.f36 Try.f40 Try.f44 Try.f33 Try.f35 Try.f31 Try.f11 Try.f13 Try.f15 Try.f9 Try.f16 Try.f6 Try.f7)) noL Try.f35)) := closeE_ok (inl_ok CK3_ok follows Try.func35 (by kernel_rfl) (lexAllF_ok (by kernel_rfl)) (noloops (by kernel_rfl)))
theorem EK_valid : EntryOk Try.prog 33 (closeE (inl Try.prog (CK3 Try.prog (CnFn.mk Try.f79 Try.f81 Try.f14 Try.f41 Try.f32 Try.f29 Try.f43 Try.f39 Try.f37 Try.f30 Try.f36 Try.f40 Try.f44 Try.f33 Try.f35 Try.f31 Try.f11 Try.f13 Try.f15 Try.f9 Try.f16 Try.f6 Try.f7)) noL Try.f33)) := closeE_ok (inl_ok CK3_ok follows Try.func33 (by kernel_rfl) (lexAllF_ok (by kernel_rfl)) (noloops (by kernel_rfl)))
theorem FK4_ok : LOk Try.prog (FK4 Try.prog (CnFn.mk Try.f79 Try.f81 Try.f14 Try.f41 Try.f32 Try.f29 Try.f43 Try.f39 Try.f37 Try.f30 Try.f36 Try.f40 Try.f44 Try.f33 Try.f35 Try.f31 Try.f11 Try.f13 Try.f15 Try.f9 Try.f16 Try.f6 Try.f7)) := addT_ok (addT_ok (addT_ok (FK3_ok) (by kernel_rfl) EK_answered) (by kernel_rfl) EK_turn) (by kernel_rfl) EK_valid
theorem CK4_ok : CfgOk Try.prog (CK4 Try.prog (CnFn.mk Try.f79 Try.f81 Try.f14 Try.f41 Try.f32 Try.f29 Try.f43 Try.f39 Try.f37 Try.f30 Try.f36 Try.f40 Try.f44 Try.f33 Try.f35 Try.f31 Try.f11 Try.f13 Try.f15 Try.f9 Try.f16 Try.f6 Try.f7)) := both_ok SCn0_ok FK4_ok
def FK5 (P : Program) (Z : CnFn) : LTab := addT 11 (closeE (inlC P (CK4 P Z) noL Z.Greet_)) <| addT 13 (closeE (inlC P (CK4 P Z) noL Z.Say_)) <| addT 15 (closeE (inlC P (CK4 P Z) noL Z.Close_)) <| addT 9 (closeE (inlC P (CK4 P Z) noL Z.Take_)) <| addT 16 (closeE (inlC P (CK4 P Z) noL Z.Tick_)) <| addT 6 (closeE (inlC P (CK4 P Z) noL Z.Dial_)) <| addT 7 (closeE (inlC P (CK4 P Z) noL Z.Adopt_)) <| FK4 P Z
abbrev fsK5 : List Nat := 11 :: 13 :: 15 :: 9 :: 16 :: 6 :: 7 :: fsK4
abbrev CK5 (P : Program) (Z : CnFn) : Cfg := both P SCn0 (FK5 P Z) fsK5
theorem EK_Adopt : EntryOk Try.prog 7 (closeE (inlC Try.prog (CK4 Try.prog (CnFn.mk Try.f79 Try.f81 Try.f14 Try.f41 Try.f32 Try.f29 Try.f43 Try.f39 Try.f37 Try.f30 Try.f36 Try.f40 Try.f44 Try.f33 Try.f35 Try.f31 Try.f11 Try.f13 Try.f15 Try.f9 Try.f16 Try.f6 Try.f7)) noL Try.f7)) := closeE_ok (inlC_ok CK4_ok follows Try.func7 (by kernel_rfl) (lexAllF_ok (by kernel_rfl)) (noloops (by kernel_rfl)))
theorem EK_Dial : EntryOk Try.prog 6 (closeE (inlC Try.prog (CK4 Try.prog (CnFn.mk Try.f79 Try.f81 Try.f14 Try.f41 Try.f32 Try.f29 Try.f43 Try.f39 Try.f37 Try.f30 Try.f36 Try.f40 Try.f44 Try.f33 Try.f35 Try.f31 Try.f11 Try.f13 Try.f15 Try.f9 Try.f16 Try.f6 Try.f7)) noL Try.f6)) := closeE_ok (inlC_ok CK4_ok follows Try.func6 (by kernel_rfl) (lexAllF_ok (by kernel_rfl)) (noloops (by kernel_rfl)))
theorem EK_Tick : EntryOk Try.prog 16 (closeE (inlC Try.prog (CK4 Try.prog (CnFn.mk Try.f79 Try.f81 Try.f14 Try.f41 Try.f32 Try.f29 Try.f43 Try.f39 Try.f37 Try.f30 Try.f36 Try.f40 Try.f44 Try.f33 Try.f35 Try.f31 Try.f11 Try.f13 Try.f15 Try.f9 Try.f16 Try.f6 Try.f7)) noL Try.f16)) := closeE_ok (inlC_ok CK4_ok follows Try.func16 (by kernel_rfl) (lexAllF_ok (by kernel_rfl)) (noloops (by kernel_rfl)))
theorem EK_Take : EntryOk Try.prog 9 (closeE (inlC Try.prog (CK4 Try.prog (CnFn.mk Try.f79 Try.f81 Try.f14 Try.f41 Try.f32 Try.f29 Try.f43 Try.f39 Try.f37 Try.f30 Try.f36 Try.f40 Try.f44 Try.f33 Try.f35 Try.f31 Try.f11 Try.f13 Try.f15 Try.f9 Try.f16 Try.f6 Try.f7)) noL Try.f9)) := closeE_ok (inlC_ok CK4_ok follows Try.func9 (by kernel_rfl) (lexAllF_ok (by kernel_rfl)) (noloops (by kernel_rfl)))
theorem EK_Close : EntryOk Try.prog 15 (closeE (inlC Try.prog (CK4 Try.prog (CnFn.mk Try.f79 Try.f81 Try.f14 Try.f41 Try.f32 Try.f29 Try.f43 Try.f39 Try.f37 Try.f30 Try.f36 Try.f40 Try.f44 Try.f33 Try.f35 Try.f31 Try.f11 Try.f13 Try.f15 Try.f9 Try.f16 Try.f6 Try.f7)) noL Try.f15)) := closeE_ok (inlC_ok CK4_ok follows Try.func15 (by kernel_rfl) (lexAllF_ok (by kernel_rfl)) (noloops (by kernel_rfl)))
theorem EK_Say : EntryOk Try.prog 13 (closeE (inlC Try.prog (CK4 Try.prog (CnFn.mk Try.f79 Try.f81 Try.f14 Try.f41 Try.f32 Try.f29 Try.f43 Try.f39 Try.f37 Try.f30 Try.f36 Try.f40 Try.f44 Try.f33 Try.f35 Try.f31 Try.f11 Try.f13 Try.f15 Try.f9 Try.f16 Try.f6 Try.f7)) noL Try.f13)) := closeE_ok (inlC_ok CK4_ok follows Try.func13 (by kernel_rfl) (lexAllF_ok (by kernel_rfl)) (noloops (by kernel_rfl)))
theorem EK_Greet : EntryOk Try.prog 11 (closeE (inlC Try.prog (CK4 Try.prog (CnFn.mk Try.f79 Try.f81 Try.f14 Try.f41 Try.f32 Try.f29 Try.f43 Try.f39 Try.f37 Try.f30 Try.f36 Try.f40 Try.f44 Try.f33 Try.f35 Try.f31 Try.f11 Try.f13 Try.f15 Try.f9 Try.f16 Try.f6 Try.f7)) noL Try.f11)) := closeE_ok (inlC_ok CK4_ok follows Try.func11 (by kernel_rfl) (lexAllF_ok (by kernel_rfl)) (noloops (by kernel_rfl)))
theorem FK5_ok : LOk Try.prog (FK5 Try.prog (CnFn.mk Try.f79 Try.f81 Try.f14 Try.f41 Try.f32 Try.f29 Try.f43 Try.f39 Try.f37 Try.f30 Try.f36 Try.f40 Try.f44 Try.f33 Try.f35 Try.f31 Try.f11 Try.f13 Try.f15 Try.f9 Try.f16 Try.f6 Try.f7)) := addT_ok (addT_ok (addT_ok (addT_ok (addT_ok (addT_ok (addT_ok (FK4_ok) (by kernel_rfl) EK_Adopt) (by kernel_rfl) EK_Dial) (by kernel_rfl) EK_Tick) (by kernel_rfl) EK_Take) (by kernel_rfl) EK_Close) (by kernel_rfl) EK_Say) (by kernel_rfl) EK_Greet
theorem CK5_ok : CfgOk Try.prog (CK5 Try.prog (CnFn.mk Try.f79 Try.f81 Try.f14 Try.f41 Try.f32 Try.f29 Try.f43 Try.f39 Try.f37 Try.f30 Try.f36 Try.f40 Try.f44 Try.f33 Try.f35 Try.f31 Try.f11 Try.f13 Try.f15 Try.f9 Try.f16 Try.f6 Try.f7)) := both_ok SCn0_ok FK5_ok
end Go.Proofs.Ytodfcalaggfldaa
