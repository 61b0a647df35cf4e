/- Timers: texts that are the same; trees. No conditions. -/
import Derived.Test.YtpbjknkbllcciaaWhE
import Derived.Test.YtpbjknkbllcciaaTl
namespace Go.Proofs.Ytpbjknkbllcciaa
set_option linter.unusedVariables false
set_option linter.unusedSimpArgs false
open Go.RowKit Sym Go.Maps Go.Sort Go.Lib

theorem firstOf_le0 (p : Nat → Bool) (n : Nat) : firstOf p n 0 ≤ n ∧ (∀ j, j < firstOf p n 0 → p j = false) ∧ (firstOf p n 0 < n → p (firstOf p n 0) = true) := by
  obtain ⟨-, he, h1, h2⟩ := firstOf_spec p n 0
  rw [Nat.zero_add] at he h2
  exact ⟨he, fun j hj => h1 j (Nat.zero_le _) hj, h2⟩
def difS (x y : Nat → ByteArray) (i : Nat) : Bool := !decide (x i = y i)
def sameS (n : Nat) (x : Nat → ByteArray) (m : Nat) (y : Nat → ByteArray) : Bool := decide (n = m) && !Nat.blt (firstOf (difS x y) n 0) n
def tx_st (n m : Nat) (x y : Nat → ByteArray) (i : Int) : St := ⟨[(0, some (.ref 0)), (1, some (.ref 1)), (5, some (.v (.int .i64 i)))], [.row n 1 fun i _ => .string (x i), .row m 1 fun i _ => .string (y i)]⟩
set_option maxRecDepth 100000 in
theorem tx_round (n m : Nat) (x y : Nat → ByteArray) (i : Int) : roundM Try.prog (onlyS Try.prog noS) noL Try.f11.ntmps 0 (loopAt Try.f11 0) 2 [0, 1, 5] [] [] (tx_st n m x y i) = .ite (decide (i < (↑n : Int))) (.ite (decide (i < (↑m : Int))) (.need ((0 : Int) ≤ i ∧ i < (↑n : Int)) (.need (i.toNat < n) (.need ((0 : Int) ≤ i ∧ i < (↑m : Int)) (.need (i.toNat < m) (.ite (!decide (x i.toNat = y i.toNat)) (.leaf (Ex.ret, St.mk [(4, some SV.ff), (31, some SV.tt), (31, some (SV.v (Value.bool !decide (x i.toNat = y i.toNat)))), (30, some (.v (.string (y i.toNat)))), (29, some (SV.elt 1 1 i.toNat 0)), (28, some (.v (.int .i64 i))), (27, some (SV.ref 1)), (26, some (.v (.string (x i.toNat)))), (25, some (SV.elt 0 1 i.toNat 0)), (24, some (.v (.int .i64 i))), (23, some (SV.ref 0)), (20, some SV.tt), (20, some (SV.v (Value.bool (decide (i < (↑m : Int)))))), (19, some (SV.v (Value.bool (decide (i < (↑m : Int)))))), (18, some (.v (.int .i64 (↑m : Int)))), (17, some (SV.ref 1)), (16, some (.v (.int .i64 i))), (15, some SV.tt), (14, some (SV.v (Value.bool (decide (i < (↑n : Int)))))), (13, some (.v (.int .i64 (↑n : Int)))), (12, some (SV.ref 0)), (11, some (.v (.int .i64 i))), (0, some (SV.ref 0)), (1, some (SV.ref 1)), (5, some (.v (.int .i64 i)))] [Blk.row n 1 fun i x_1 => Value.string (x i), Blk.row m 1 fun i x => Value.string (y i)])) (.leaf (Ex.normal, St.mk [(0, some (SV.ref 0)), (1, some (SV.ref 1)), (5, some (.v (.int .i64 (IntKind.i64.wrap (i + (1 : Int))))))] [Blk.row n 1 fun i x_1 => Value.string (x i), Blk.row m 1 fun i x => Value.string (y i)]))))))) (.leaf (Ex.exit 0, St.mk [(0, some (SV.ref 0)), (1, some (SV.ref 1)), (5, some (.v (.int .i64 i)))] [Blk.row n 1 fun i x_1 => Value.string (x i), Blk.row m 1 fun i x => Value.string (y i)]))) (.leaf (Ex.exit 0, St.mk [(0, some (SV.ref 0)), (1, some (SV.ref 1)), (5, some (.v (.int .i64 i)))] [Blk.row n 1 fun i x_1 => Value.string (x i), Blk.row m 1 fun i x => Value.string (y i)])) := by kernel_rfl
def LTx (P : Program) (C : Cfg) (fn : Func) (n m : Nat) (x y : Nat → ByteArray) (e : Nat) : Nat → St → Option (T (Ex × St)) :=
  addL 0 (fun st => .need (st.H.length = 2) (.need (st.tidy 2 [0, 1, 5] [] [] = tx_st n m x y (0 : Nat)) ((roundM P C noL fn.ntmps 0 (loopAt fn 0) 2 [0, 1, 5] [] [] (closeAt [] (tx_st n m x y (e : Nat)))).bind (lastX 0)))) noL
set_option maxRecDepth 100000 in
theorem tx_run (n m : Nat) (x y : Nat → ByteArray) (e : Nat) : runO Try.prog (onlyS Try.prog noS) (LTx Try.prog (onlyS Try.prog noS) Try.f11 n m x y e) Try.f11 [.ref 0, .ref 1] [.row n 1 fun i _ => .string (x i), .row m 1 fun i _ => .string (y i)] = .ite (!decide ((↑n : Int) = (↑m : Int))) (.leaf (Value.bool false)) (.need (2 = 2) (.need (St.mk [(0, some (SV.ref 0)), (1, some (SV.ref 1)), (5, some (.v (.int .i64 0)))] [Blk.row n 1 fun i x_1 => Value.string (x i), Blk.row m 1 fun i x => Value.string (y i)] = St.mk [(0, some (SV.ref 0)), (1, some (SV.ref 1)), (5, some (.v (.int .i64 0)))] [Blk.row n 1 fun i x_1 => Value.string (x i), Blk.row m 1 fun i x => Value.string (y i)]) (.ite (decide ((↑e : Int) < (↑n : Int))) (.ite (decide ((↑e : Int) < (↑m : Int))) (.need ((0 : Int) ≤ (↑e : Int) ∧ (↑e : Int) < (↑n : Int)) (.need ((↑e : Int).toNat < n) (.need ((0 : Int) ≤ (↑e : Int) ∧ (↑e : Int) < (↑m : Int)) (.need ((↑e : Int).toNat < m) (.ite (!decide (x (↑e : Int).toNat = y (↑e : Int).toNat)) (.leaf (Value.bool false)) (T.stuck 39)))))) (.leaf (Value.bool true))) (.leaf (Value.bool true))))) := by kernel_rfl
set_option maxRecDepth 100000 in
theorem tx0_run (n m : Nat) (x y : Nat → ByteArray) : runO Try.prog (onlyS Try.prog noS) noL Try.f11 [.ref 0, .ref 1] [.row n 1 fun i _ => .string (x i), .row m 1 fun i _ => .string (y i)] = .ite (!decide ((↑n : Int) = (↑m : Int))) (.leaf (Value.bool false)) (T.stuck 3000) := by kernel_rfl
theorem tx_step (n m : Nat) (x y : Nat → ByteArray) (hn : n ≤ maxLen) (hnm : n = m) : ∀ i : Nat, i ≤ firstOf (difS x y) n 0 → i ≠ firstOf (difS x y) n 0 → (roundM Try.prog (onlyS Try.prog noS) noL Try.f11.ntmps 0 (loopAt Try.f11 0) 2 [0, 1, 5] [] [] (tx_st n m x y (i : Nat))).ok fun r => r.1 = .normal ∧ ∃ j, j ≤ firstOf (difS x y) n 0 ∧ firstOf (difS x y) n 0 - j < firstOf (difS x y) n 0 - i ∧ r.2 = tx_st n m x y (j : Nat) := by
  intro i hi hne
  obtain ⟨he, h1, -⟩ := firstOf_le0 (difS x y) n
  unfold maxLen at hn
  have hk : x i = y i := by have := h1 i (by omega); unfold difS at this; simpa using this
  have hw : IntKind.i64.wrap ((i : Int) + 1) = ((i + 1 : Nat) : Int) := by rw [w64 _ (by omega) (by omega)]; rfl
  rw [tx_round, hw]
  simp only [Int.toNat_natCast]
  refine t_ite (fun h => t_ite (fun h2 => t_need ⟨by omega, by omega⟩ (t_need (by omega) (t_need ⟨by omega, by omega⟩ (t_need (by omega) (t_ite (fun h3 => ?_) fun h3 => t_leaf ⟨rfl, i + 1, by omega, by omega, rfl⟩))))) fun h2 => ?_) fun h => ?_
  · rw [Bool.not_eq_true', decide_eq_false_iff_not] at h3
    exact absurd hk h3
  · have := of_decide_eq_false h2; omega
  · have := of_decide_eq_false h; omega
theorem mem_rows2 {w : World} {u v : Value} {n m sz tz : Nat} {f g : Nat → Nat → Value} (h : ∀ B, BlkSat B w u (.row n sz f)) (h' : ∀ B, BlkSat B w v (.row m tz g)) : Mem w [] [.row n sz f, .row m tz g] [u, v] w := by
  have noex : ∀ k b, ¬ ExBlk [.row n sz f, .row m tz g] [u, v] k b := by
    rintro k b ⟨x, y, g1, g2, -, -⟩
    match k with
    | 0 => simp only [List.getElem?_cons_zero, Option.some.injEq] at g1; subst g1; cases g2
    | 1 => simp only [List.getElem?_cons_succ, List.getElem?_cons_zero, Option.some.injEq] at g1; subst g1; cases g2
    | k + 2 => simp at g1
  refine ⟨⟨rfl, fun k x y h1 h2 => ?_, fun k j b h1 h2 => absurd h1 (noex k b), fun k j b h1 h2 => absurd h1 (noex k b)⟩, .refl _ _, fun k b h1 => absurd h1 (noex k b)⟩
  match k with
  | 0 => simp only [List.getElem?_cons_zero, Option.some.injEq] at h1 h2; subst h1; subst h2; exact h _
  | 1 => simp only [List.getElem?_cons_succ, List.getElem?_cons_zero, Option.some.injEq] at h1 h2; subst h1; subst h2; exact h' _
  | k + 2 => simp at h1
theorem texts_any (n m : Nat) (x y : Nat → ByteArray) (hn : n ≤ maxLen) (hm : m ≤ maxLen) (u v : Value) (w : World) (hu : ∀ B, BlkSat B w u (.row n 1 fun i _ => .string (x i))) (hv : ∀ B, BlkSat B w v (.row m 1 fun i _ => .string (y i))) :
    Calls Try.prog 11 #[u, v] w fun e w' => e = .returned (.bool (sameS n x m y)) ∧ Below w.heap.size w w' := by
  obtain ⟨he, h1, h2⟩ := firstOf_le0 (difS x y) n
  by_cases hnm : n = m
  · refine calls_runO (v := .bool (sameS n x m y)) (onlyS_ok noS_ok) follows Try.func11 (by kernel_rfl) (lexAllF_ok (by kernel_rfl)) (one_loop (b := loopAt Try.f11 0) (id := 0) (by kernel_rfl) fun st t hh => ?_) (tx_run n m x y (firstOf (difS x y) n 0)) ?_ (mem_rows2 hu hv) rfl
    · rw [addL_same hh]
      exact loop_cnt (onlyS_ok noS_ok) follows (lexAllF_ok (by kernel_rfl)) (noloops (by kernel_rfl)) (fun i => i ≤ firstOf (difS x y) n 0) (fun i => tx_st n m x y (i : Nat)) (fun i => firstOf (difS x y) n 0 - i) 2 [0, 1, 5] [] [] (firstOf (difS x y) n 0) [] (tx_step n m x y hn hnm) (Nat.zero_le _)
    · have hz : sameS n x m y = !Nat.blt (firstOf (difS x y) n 0) n := by unfold sameS; rw [decide_eq_true hnm, Bool.true_and]
      rw [hz]
      generalize firstOf (difS x y) n 0 = e at *
      subst hnm
      refine t_ite (fun h => by simp at h) fun _ => t_need rfl (t_need rfl (t_ite (fun h3 => ?_) fun h3 => t_leaf ?_))
      · have h3 := of_decide_eq_true h3
        have hlt : e < n := by omega
        have hd := h2 hlt
        unfold difS at hd
        refine t_ite (fun _ => t_need ⟨by omega, by omega⟩ (t_need (by omega) (t_need ⟨by omega, by omega⟩ (t_need (by omega) (t_ite (fun _ => t_leaf ?_) fun h4 => ?_))))) fun h4 => ?_
        · rw [show Nat.blt e n = true by rw [Nat.blt_eq]; exact hlt]; rfl
        · rw [Int.toNat_natCast] at h4
          rw [hd] at h4; cases h4
        · have := of_decide_eq_false h4; omega
      · have h3 := of_decide_eq_false h3
        have hlt : ¬ e < n := by omega
        rw [show Nat.blt e n = false by rw [← Bool.not_eq_true, Nat.blt_eq]; exact hlt]
        rfl
  · refine calls_runO (v := .bool (sameS n x m y)) (onlyS_ok noS_ok) follows Try.func11 (by kernel_rfl) (lexAllF_ok (by kernel_rfl)) (one_loop (b := loopAt Try.f11 0) (id := 0) (by kernel_rfl) fun st t hh => ?_) (tx0_run n m x y) ?_ (mem_rows2 hu hv) rfl
    · cases hh
    · have hz : sameS n x m y = false := by unfold sameS; rw [decide_eq_false hnm, Bool.false_and]
      rw [hz]
      refine t_ite (fun _ => t_leaf rfl) fun h => ?_
      simp at h
      omega
/-- texts of a row -/
def strR (f : Nat → Nat → Value) (i : Nat) : ByteArray := strV (f i 0)
def AllStr (n : Nat) (f : Nat → Nat → Value) : Prop := n ≤ maxLen ∧ ∀ i, i < n → f i 0 = .string (strR f i)
def fTexts : List SV → List Blk → Option (List Prop × Value)
  | [a, b], H => (rowIn 1 H a).bind fun p => (rowIn 1 H b).bind fun q => some ([AllStr p.1 p.2, AllStr q.1 q.2], .bool (sameS p.1 (strR p.2) q.1 (strR q.2)))
  | _, _ => none
theorem fTexts_ok : ReadOk Try.prog 11 fTexts := by
  intro ss H q v h bs B w vs hm hv hp
  unfold fTexts at h
  split at h
  · simp only [Option.bind_eq_some_iff, Option.some.injEq, Prod.mk.injEq] at h
    obtain ⟨⟨n, f⟩, hr, ⟨m, g⟩, hr', rfl, rfl⟩ := h
    obtain ⟨x0, r0, e0, v0, rfl⟩ := tos_cons hv
    obtain ⟨x1, r1, e1, v1, rfl⟩ := tos_cons v0
    obtain rfl := tos_nil v1
    have a0 := hp _ (List.mem_cons_self ..)
    have a1 := hp _ (List.mem_cons_of_mem _ (List.mem_cons_self ..))
    have row : ∀ {n : Nat} {f : Nat → Nat → Value} {u : Value}, AllStr n f → (∀ B, BlkSat B w u (.row n 1 f)) → ∀ B, BlkSat B w u (.row n 1 fun i _ => .string (strR f i)) := fun ha hb B => row_congr (hb B) fun i j hi hj => by
      obtain rfl : j = 0 := by omega
      exact ha.2 i hi
    exact texts_any n m (strR f) (strR g) a0.1 a1.1 x0 x1 w (row a0 (rowIn_ok hm e0 hr)) (row a1 (rowIn_ok hm e1 hr'))
  · cases h
def FNx (P : Program) (fLen : Func) : LTab := addT 12 (inl P (onlyS P noS) noL fLen) noF
abbrev CNx (P : Program) (fLen : Func) : Cfg := ⟨noS, gOrd P (liftG (FNx P fLen)), effE P (12 :: fsWh0), [], []⟩
theorem CNx_ok : CfgOk Try.prog (CNx Try.prog Try.f12) := ⟨noS_ok, gOrd_ok (liftG_ok (addT_ok noF_ok (by kernel_rfl) (inl_ok (onlyS_ok noS_ok) follows Try.func12 (by kernel_rfl) (lexAllF_ok (by kernel_rfl)) (noloops (by kernel_rfl)))))⟩
set_option maxRecDepth 100000 in
theorem next_run (now : Int) (D : DataW Unit) : trimT 2 (runF Try.prog (CNx Try.prog Try.f12) noL Try.f9 (Try.f9.body.getD .skip) [.ptr 0 0] [.own [.v (.int .i64 now), .ref 1], .ext (.smap Try.prog 9 3 D)]) = .need (Try.prog = Try.prog) (.ite (decide ((↑(mSize D) : Int) = (0 : Int))) (.leaf (SV.v (Value.tuple (Array.mk [Value.int IntKind.i64 0, Value.bool false])), [.own [.v (.int .i64 now), SV.ref 1], Blk.ext (XD.smap Try.prog 9 3 D)])) (.need (Try.prog = Try.prog ∧ mSize D ≤ 1000000000) (.need ((0 : Int) ≤ (0 : Int) ∧ (0 : Int) < (↑(ordL D).length : Int)) (.need (0 < (ordL D).length) (.need (List.take 1 (List.drop 0 (List.map encStr (ordL D))) = [Value.string (strV (cellAt (List.map encStr (ordL D)) 0))]) (.need (Try.prog = Try.prog) (.need ((strV (cellAt (List.map encStr (ordL D)) 0)).size ≤ 9223372036854775807) (.leaf (SV.v (Value.tuple (Array.mk [Value.int IntKind.i64 (mGet D (strV (cellAt (List.map encStr (ordL D)) 0))), Value.bool true])), [.own [.v (.int .i64 now), SV.ref 1], Blk.ext (XD.smap Try.prog 9 3 D)]))))))))) := by kernel_rfl
end Go.Proofs.Ytpbjknkbllcciaa
