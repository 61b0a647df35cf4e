/- Timers: the law of pieces: trees. No conditions. -/
import Derived.Test.YtpbjknkbllcciaaWhF
namespace Go.Proofs.Ytpbjknkbllcciaa
set_option linter.unusedVariables false
set_option linter.unusedSimpArgs false
open Go.RowKit Sym Go.Maps Go.Sort Go.Lib

def WfD (D : DataW Unit) : Prop := (mSize D = (ordL D).length ∧ mSize D ≤ 1000000000) ∧ ∀ x ∈ ordL D, x.length ≤ maxLen
def nextI (D : DataW Unit) : Int := if 0 < (ordL D).length then dueL D (nameL D 0) else 0
def nextB (D : DataW Unit) : Bool := decide (0 < (ordL D).length)
def fNext (P : Program) : List SV → List Blk → Option (T (SV × List Blk))
  | [.ptr 0 0], [.own [.v (.int .i64 now), .ref 1], .ext (.smap P' k e D)] => bif Nat.beq k 9 && Nat.beq e 3 then
      some (.need (P' = P ∧ WfD D) (.leaf (.v (.tuple #[.int .i64 (nextI D), .bool (nextB D)]), [.own [.v (.int .i64 now), .ref 1], .ext (.smap P' k e D)]))) else none
  | _, _ => none
theorem fNext_ok : EntryOk Try.prog 9 (fNext Try.prog) := by
  intro ss H t ht bs B w vs hm hv Qs hq
  unfold fNext at ht
  split at ht
  · rename_i now P' k e D
    cases hb : (Nat.beq k 9 && Nat.beq e 3)
    · rw [hb] at ht; cases ht
    · rw [hb, cond_true, Option.some.injEq] at ht
      subst ht
      rw [Bool.and_eq_true] at hb
      obtain rfl := Nat.eq_of_beq_eq_true hb.1
      obtain rfl := Nat.eq_of_beq_eq_true hb.2
      obtain ⟨⟨rfl, ⟨hs1, hs2⟩, hle⟩, hq⟩ := hq
      refine trimT_ok CNx_ok follows Try.func9 (by kernel_rfl) (lexAllF_ok (by kernel_rfl)) (noloops (by kernel_rfl)) (next_run now D) hm hv ?_
      have hq : Qs (.v (.tuple #[.int .i64 (nextI D), .bool (nextB D)]), [.own [.v (.int .i64 now), .ref 1], .ext (.smap Try.prog 9 3 D)]) := hq
      unfold nextI nextB at hq
      refine t_need rfl (t_ite (fun h => t_leaf ?_) fun h => ?_)
      · have h := of_decide_eq_true h
        have h0 : ¬ 0 < (ordL D).length := by omega
        rw [if_neg h0, decide_eq_false h0] at hq
        exact hq
      · have h := of_decide_eq_false h
        have h0 : 0 < (ordL D).length := by omega
        rw [if_pos h0, decide_eq_true h0] at hq
        obtain ⟨x, l, hx⟩ := List.exists_cons_of_length_pos h0
        have e1 : nameL D 0 = x := by unfold nameL; rw [hx]; rfl
        rw [e1] at hq
        rw [hx]
        have hxl := hle x (by rw [hx]; exact List.mem_cons_self ..)
        have hg : mGet D ⟨x.toArray⟩ = dueL D x := by unfold mGet dueL mKey; simp
        refine t_need ⟨rfl, hs2⟩ (t_need ⟨by omega, by simp⟩ (t_need (by simp) (t_need rfl (t_need rfl (t_need ?_ (t_leaf ?_))))))
        · show (⟨x.toArray⟩ : ByteArray).size ≤ _
          show x.toArray.size ≤ _
          unfold maxLen at hxl
          simpa using hxl
        · show Qs (.v (.tuple #[.int .i64 (mGet D ⟨x.toArray⟩), .bool true]), _)
          rw [hg]
          exact hq
  · cases ht
/-! all that a wheel does, as variables -/
structure WhV where
  set : Int → DataW Unit → ByteArray → Int → DataW Unit
  del : DataW Unit → Int → DataW Unit
  due : DataW Unit → Int → Nat
  row : DataW Unit → Int → List Value
  now : Int → Int → Int
  ini : Int → Int
  nxI : DataW Unit → Int
  nxB : DataW Unit → Bool
  emp : DataW Unit
  ok : Int → DataW Unit → Prop
def okW (now : Int) (D : DataW Unit) : Prop := (0 ≤ now ∧ now ≤ 1099511627776) ∧ (mSize D = (ordL D).length ∧ mSize D ≤ 64) ∧ ∀ x ∈ ordL D, x.length ≤ maxLen
def iniT (now : Int) : Int := if (1099511627776 : Int) < if (0 : Int) > now then (0 : Int) else now then (1099511627776 : Int) else if (0 : Int) > now then (0 : Int) else now
def whV : WhV where
  set := setD
  del D now := delN D (dueN D now)
  due := dueN
  row D now := ((ordL D).take (dueN D now)).map encStr
  now := nowT
  ini := iniT
  nxI := nextI
  nxB := nextB
  emp := .map []
  ok := okW
def fTurnV (P : Program) (V : WhV) : List SV → List Blk → Option (T (SV × List Blk))
  | [.ptr 0 0, .v (.int .i64 t)], [.own [.v (.int .i64 now), .ref 1], .ext (.smap P' k e D)] => bif Nat.beq k 9 && Nat.beq e 3 then
      some (.need (P' = P ∧ V.ok now D) (.leaf (.ref 2, [.own [.v (.int .i64 (V.now now t)), .ref 1], .ext (.smap P' k e (V.del D (V.now now t))), .vec false noGrow 1 (V.due D (V.now now t)) (V.row D (V.now now t))]))) else none
  | _, _ => none
def fSetV (P : Program) (V : WhV) : List SV → List Blk → Option (T (SV × List Blk))
  | [.ptr 0 0, .v (.string s), .v (.int .i64 t)], [.own [.v (.int .i64 now), .ref 1], .ext (.smap P' k e D)] => bif Nat.beq k 9 && Nat.beq e 3 then
      some (.need (P' = P ∧ V.ok now D ∧ s.size ≤ 9223372036854775807) (.leaf (.v (.tuple #[]), [.own [.v (.int .i64 now), .ref 1], .ext (.smap P' k e (V.set now D s t))]))) else none
  | _, _ => none
def fNextV (P : Program) (V : WhV) : List SV → List Blk → Option (T (SV × List Blk))
  | [.ptr 0 0], [.own [.v (.int .i64 now), .ref 1], .ext (.smap P' k e D)] => bif Nat.beq k 9 && Nat.beq e 3 then
      some (.need (P' = P ∧ V.ok now D) (.leaf (.v (.tuple #[.int .i64 (V.nxI D), .bool (V.nxB D)]), [.own [.v (.int .i64 now), .ref 1], .ext (.smap P' k e D)]))) else none
  | _, _ => none
def fNewV (P : Program) (V : WhV) : List SV → List Blk → Option (T (SV × List Blk))
  | [.v (.int .i64 now)], [] => some (.leaf (.ptr 0 0, [.own [.v (.int .i64 (V.ini now)), .ref 1], .ext (.smap P 9 3 V.emp)]))
  | _, _ => none
theorem entry_weak {P : Program} {k : FuncId} {h h' : List SV → List Blk → Option (T (SV × List Blk))} (hok : EntryOk P k h) (hw : ∀ ss H t, h' ss H = some t → ∃ t', h ss H = some t' ∧ ∀ Q : SV × List Blk → Prop, t.ok Q → t'.ok Q) : EntryOk P k h' := by
  intro ss H t ht bs B w vs hm hv Qs hq
  obtain ⟨t', e, h⟩ := hw ss H t ht
  exact hok ss H t' e bs B w vs hm hv Qs (h Qs hq)
theorem fTurnV_ok : EntryOk Try.prog 10 (fTurnV Try.prog whV) := by
  refine entry_weak fTurn_ok fun ss H t ht => ?_
  unfold fTurnV at ht
  split at ht
  · rename_i t now P' k e D
    cases hb : (Nat.beq k 9 && Nat.beq e 3)
    · rw [hb] at ht; cases ht
    · rw [hb, cond_true, Option.some.injEq] at ht
      subst ht
      rw [Bool.and_eq_true] at hb
      obtain rfl := Nat.eq_of_beq_eq_true hb.1
      obtain rfl := Nat.eq_of_beq_eq_true hb.2
      refine ⟨_, rfl, fun Q h => ?_⟩
      exact t_need ⟨h.1.1, h.1.2.1, Nat.le_trans h.1.2.2.1.2 (by decide)⟩ h.2
  · cases ht
theorem fSetV_ok : EntryOk Try.prog 7 (fSetV Try.prog whV) := by
  refine entry_weak fSet_ok fun ss H t ht => ?_
  unfold fSetV at ht
  split at ht
  · rename_i s t now P' k e D
    cases hb : (Nat.beq k 9 && Nat.beq e 3)
    · rw [hb] at ht; cases ht
    · rw [hb, cond_true, Option.some.injEq] at ht
      subst ht
      rw [Bool.and_eq_true] at hb
      obtain rfl := Nat.eq_of_beq_eq_true hb.1
      obtain rfl := Nat.eq_of_beq_eq_true hb.2
      refine ⟨_, rfl, fun Q h => ?_⟩
      exact t_need ⟨h.1.1, h.1.2.1.1, Nat.lt_of_le_of_lt h.1.2.1.2.1.2 (by decide), h.1.2.2⟩ h.2
  · cases ht
theorem fNextV_ok : EntryOk Try.prog 9 (fNextV Try.prog whV) := by
  refine entry_weak fNext_ok fun ss H t ht => ?_
  unfold fNextV at ht
  split at ht
  · rename_i now P' k e D
    cases hb : (Nat.beq k 9 && Nat.beq e 3)
    · rw [hb] at ht; cases ht
    · rw [hb, cond_true, Option.some.injEq] at ht
      subst ht
      rw [Bool.and_eq_true] at hb
      obtain rfl := Nat.eq_of_beq_eq_true hb.1
      obtain rfl := Nat.eq_of_beq_eq_true hb.2
      refine ⟨_, rfl, fun Q h => ?_⟩
      exact t_need ⟨h.1.1, ⟨h.1.2.2.1.1, Nat.le_trans h.1.2.2.1.2 (by decide)⟩, h.1.2.2.2⟩ h.2
  · cases ht
theorem fNewV_ok : EntryOk Try.prog 6 (fNewV Try.prog whV) := by
  intro ss H t ht bs B w vs hm hv Qs hq
  unfold fNewV at ht
  split at ht
  · rename_i now
    rw [Option.some.injEq] at ht
    subst ht
    exact canT_ok CWh0_ok follows Try.func6 (by kernel_rfl) (lexAllF_ok (by kernel_rfl)) (noloops (by kernel_rfl)) (new_run now) hm hv hq
  · cases ht
structure WhFn where
  now : Func
  len : Func
def FWl (P : Program) (V : WhV) (N : WhFn) : LTab := addF 10 (fTurnV P V) <| addF 7 (fSetV P V) <| addF 9 (fNextV P V) <| addR 11 fTexts <|
  addF 6 (fNewV P V) <| addT 8 (inl P (onlyS P noS) noL N.now) <| addT 12 (inl P (onlyS P noS) noL N.len) noF
abbrev fsWl : List Nat := [10, 7, 6]
abbrev CWl (P : Program) (V : WhV) (S : Tab) (N : WhFn) : Cfg := both P S (FWl P V N) fsWl
theorem FWl_ok : LOk Try.prog (FWl Try.prog whV ⟨Try.f8, Try.f12⟩) :=
  addF_ok (addF_ok (addF_ok (addR_ok (addF_ok (addT_ok (addT_ok noF_ok
    (by kernel_rfl) (inl_ok (onlyS_ok noS_ok) follows Try.func12 (by kernel_rfl) (lexAllF_ok (by kernel_rfl)) (noloops (by kernel_rfl))))
    (by kernel_rfl) (inl_ok (onlyS_ok noS_ok) follows Try.func8 (by kernel_rfl) (lexAllF_ok (by kernel_rfl)) (noloops (by kernel_rfl))))
    (by kernel_rfl) fNewV_ok) (by kernel_rfl) fTexts_ok) (by kernel_rfl) fNextV_ok) (by kernel_rfl) fSetV_ok) (by kernel_rfl) fTurnV_ok
set_option maxRecDepth 100000 in
theorem works13_run (V : WhV) : runO Try.prog (CWl Try.prog V noS ⟨Try.f8, Try.f12⟩) noL Try.f5 [] [] = .need (Try.prog = Try.prog ∧ V.10 (V.6 (5 : Int)) V.9 ∧ 1 ≤ 9223372036854775807) (.need (Try.prog = Try.prog ∧ V.10 (V.6 (5 : Int)) (V.1 (V.6 (5 : Int)) V.9 (ByteArray.mk (Array.mk [UInt8.ofBitVec (BitVec.ofFin (Fin.mk 97 (Nat.mod_lt 97 (BitVec.ofNat._proof_1 8))))])) (3 : Int)) ∧ 1 ≤ 9223372036854775807) (.need (Try.prog = Try.prog ∧ V.10 (V.6 (5 : Int)) (V.1 (V.6 (5 : Int)) (V.1 (V.6 (5 : Int)) V.9 (ByteArray.mk (Array.mk [UInt8.ofBitVec (BitVec.ofFin (Fin.mk 97 (Nat.mod_lt 97 (BitVec.ofNat._proof_1 8))))])) (3 : Int)) (ByteArray.mk (Array.mk [UInt8.ofBitVec (BitVec.ofFin (Fin.mk 98 (Nat.mod_lt 98 (BitVec.ofNat._proof_1 8))))])) (1 : Int))) (.need (Try.prog = Try.prog ∧ V.10 (V.5 (V.6 (5 : Int)) (2 : Int)) (V.2 (V.1 (V.6 (5 : Int)) (V.1 (V.6 (5 : Int)) V.9 (ByteArray.mk (Array.mk [UInt8.ofBitVec (BitVec.ofFin (Fin.mk 97 (Nat.mod_lt 97 (BitVec.ofNat._proof_1 8))))])) (3 : Int)) (ByteArray.mk (Array.mk [UInt8.ofBitVec (BitVec.ofFin (Fin.mk 98 (Nat.mod_lt 98 (BitVec.ofNat._proof_1 8))))])) (1 : Int)) (V.5 (V.6 (5 : Int)) (2 : Int)))) (.need (AllStr (V.3 (V.1 (V.6 (5 : Int)) (V.1 (V.6 (5 : Int)) V.9 (ByteArray.mk (Array.mk [UInt8.ofBitVec (BitVec.ofFin (Fin.mk 97 (Nat.mod_lt 97 (BitVec.ofNat._proof_1 8))))])) (3 : Int)) (ByteArray.mk (Array.mk [UInt8.ofBitVec (BitVec.ofFin (Fin.mk 98 (Nat.mod_lt 98 (BitVec.ofNat._proof_1 8))))])) (1 : Int)) (V.5 (V.6 (5 : Int)) (2 : Int))) fun i j => cellAt (V.row (V.1 (V.6 (5 : Int)) (V.1 (V.6 (5 : Int)) V.9 (ByteArray.mk (Array.mk [UInt8.ofBitVec (BitVec.ofFin (Fin.mk 97 (Nat.mod_lt 97 (BitVec.ofNat._proof_1 8))))])) (3 : Int)) (ByteArray.mk (Array.mk [UInt8.ofBitVec (BitVec.ofFin (Fin.mk 98 (Nat.mod_lt 98 (BitVec.ofNat._proof_1 8))))])) (1 : Int)) (V.5 (V.6 (5 : Int)) (2 : Int))) (i * 1 + j)) (.need (AllStr 1 fun i j => cellAt [Value.string (ByteArray.mk (Array.mk [UInt8.ofBitVec (BitVec.ofFin (Fin.mk 98 (Nat.mod_lt 98 (BitVec.ofNat._proof_1 8))))]))] (i * 1 + j)) (.ite (sameS (V.3 (V.1 (V.6 (5 : Int)) (V.1 (V.6 (5 : Int)) V.9 (ByteArray.mk (Array.mk [UInt8.ofBitVec (BitVec.ofFin (Fin.mk 97 (Nat.mod_lt 97 (BitVec.ofNat._proof_1 8))))])) (3 : Int)) (ByteArray.mk (Array.mk [UInt8.ofBitVec (BitVec.ofFin (Fin.mk 98 (Nat.mod_lt 98 (BitVec.ofNat._proof_1 8))))])) (1 : Int)) (V.5 (V.6 (5 : Int)) (2 : Int))) (strR fun i j => cellAt (V.row (V.1 (V.6 (5 : Int)) (V.1 (V.6 (5 : Int)) V.9 (ByteArray.mk (Array.mk [UInt8.ofBitVec (BitVec.ofFin (Fin.mk 97 (Nat.mod_lt 97 (BitVec.ofNat._proof_1 8))))])) (3 : Int)) (ByteArray.mk (Array.mk [UInt8.ofBitVec (BitVec.ofFin (Fin.mk 98 (Nat.mod_lt 98 (BitVec.ofNat._proof_1 8))))])) (1 : Int)) (V.5 (V.6 (5 : Int)) (2 : Int))) (i * 1 + j)) 1 (strR fun i j => cellAt [Value.string (ByteArray.mk (Array.mk [UInt8.ofBitVec (BitVec.ofFin (Fin.mk 98 (Nat.mod_lt 98 (BitVec.ofNat._proof_1 8))))]))] (i * 1 + j))) (.ite (decide (V.7 (V.2 (V.1 (V.6 (5 : Int)) (V.1 (V.6 (5 : Int)) V.9 (ByteArray.mk (Array.mk [UInt8.ofBitVec (BitVec.ofFin (Fin.mk 97 (Nat.mod_lt 97 (BitVec.ofNat._proof_1 8))))])) (3 : Int)) (ByteArray.mk (Array.mk [UInt8.ofBitVec (BitVec.ofFin (Fin.mk 98 (Nat.mod_lt 98 (BitVec.ofNat._proof_1 8))))])) (1 : Int)) (V.5 (V.6 (5 : Int)) (2 : Int))) = (8 : Int))) (.ite (V.8 (V.2 (V.1 (V.6 (5 : Int)) (V.1 (V.6 (5 : Int)) V.9 (ByteArray.mk (Array.mk [UInt8.ofBitVec (BitVec.ofFin (Fin.mk 97 (Nat.mod_lt 97 (BitVec.ofNat._proof_1 8))))])) (3 : Int)) (ByteArray.mk (Array.mk [UInt8.ofBitVec (BitVec.ofFin (Fin.mk 98 (Nat.mod_lt 98 (BitVec.ofNat._proof_1 8))))])) (1 : Int)) (V.5 (V.6 (5 : Int)) (2 : Int)))) (.ite (decide (V.5 (V.6 (5 : Int)) (2 : Int) = (7 : Int))) (.need (Try.prog = Try.prog) (.leaf (Value.bool (decide ((↑(mSize (V.2 (V.1 (V.6 (5 : Int)) (V.1 (V.6 (5 : Int)) V.9 (ByteArray.mk (Array.mk [UInt8.ofBitVec (BitVec.ofFin (Fin.mk 97 (Nat.mod_lt 97 (BitVec.ofNat._proof_1 8))))])) (3 : Int)) (ByteArray.mk (Array.mk [UInt8.ofBitVec (BitVec.ofFin (Fin.mk 98 (Nat.mod_lt 98 (BitVec.ofNat._proof_1 8))))])) (1 : Int)) (V.5 (V.6 (5 : Int)) (2 : Int)))) : Int) = (1 : Int)))))) (.leaf (Value.bool false))) (.leaf (Value.bool false))) (.leaf (Value.bool false))) (.leaf (Value.bool false)))))))) := by kernel_rfl
end Go.Proofs.Ytpbjknkbllcciaa
