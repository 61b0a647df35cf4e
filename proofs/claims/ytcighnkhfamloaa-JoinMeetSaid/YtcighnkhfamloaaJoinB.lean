/- Options of several paths: whether arguments are great. No conditions. -/
import Derived.Test.YtcighnkhfamloaaJoinA
namespace Go.Proofs.Ytcighnkhfamloaa
set_option linter.unusedVariables false
set_option linter.unusedSimpArgs false
open Go.RowKit Sym Sha Go.ChangeShapes Go.WideShapes Go.ChangeMaps

def earlyJ (g : Nat → Mu) (i : Nat) : Bool := Nat.ble 20 i || Nat.blt 300 (g i).bytes.size
theorem earlyJ_no {g : Nat → Mu} {i : Nat} (h : earlyJ g i = false) : i < 20 ∧ (g i).bytes.size ≤ 300 := by
  unfold earlyJ at h
  simp only [Bool.or_eq_false_iff] at h
  obtain ⟨h1, h2⟩ := h
  refine ⟨?_, ?_⟩
  · rw [← Bool.not_eq_true, Nat.ble_eq] at h1; omega
  · rw [← Bool.not_eq_true, Nat.blt_eq] at h2; omega
theorem earlyJ_yes {g : Nat → Mu} {i : Nat} (h : earlyJ g i = true) : ¬ (i < 20 ∧ (g i).bytes.size ≤ 300) := by
  unfold earlyJ at h
  simp only [Bool.or_eq_true, Nat.ble_eq, Nat.blt_eq] at h
  omega
def greatV (n : Nat) (g : Nat → Mu) (key wa wb : ByteArray) : Bool := Nat.blt (firstOf (earlyJ g) n 0) n || (decide ((key.size : Int) > 100) || (decide ((wa.size : Int) > 100) || decide ((wb.size : Int) > 100)))
def stGI (n : Nat) (g : Nat → Mu) (way : Int) (key : ByteArray) (tok x y : Int) (wa wb : ByteArray) (i : Nat) : St := stG n g way key tok x y wa wb (i : Int)
set_option maxRecDepth 100000 in
theorem stGI_step (n : Nat) (g : Nat → Mu) (way : Int) (key : ByteArray) (tok x y : Int) (wa wb : ByteArray) (e : Nat) (he : e ≤ n) (hn : ∀ j, j < e → earlyJ g j = false) : ∀ i : Nat, i ≤ e → i ≠ e → (roundM Try.prog (onlyS Try.prog noS) noL Try.f14.ntmps 0 (loopAt Try.f14 0) 3 [2, 3, 4, 7] [] [] (stGI n g way key tok x y wa wb i)).ok fun r => r.1 = .normal ∧ ∃ j, j ≤ e ∧ e - j < e - i ∧ r.2 = stGI n g way key tok x y wa wb j := by
  intro i hi hne
  have hlt : i < e := by omega
  obtain ⟨k1, k2⟩ := earlyJ_no (hn i hlt)
  have hw : IntKind.i64.wrap ((i : Int) + 1) = ((i + 1 : Nat) : Int) := by rw [w64 _ (by omega) (by omega)]; rfl
  unfold stGI
  rw [stG_round]
  simp only [Int.toNat_natCast, hw]
  refine ⟨fun _ => ⟨fun h => ?_, fun _ => ⟨by omega, by omega, fun h => ?_, fun _ => ⟨rfl, i + 1, by omega, by omega, rfl⟩⟩⟩, fun h => ?_⟩
  · have h := of_decide_eq_true h; omega
  · have h := of_decide_eq_true h
    have h : ((g i).bytes.size : Int) > 300 := h
    omega
  · have h := of_decide_eq_false h; omega
def LGr (P : Program) (fn : Func) (n : Nat) (g : Nat → Mu) (way : Int) (key : ByteArray) (tok x y : Int) (wa wb : ByteArray) (e : Nat) : Nat → St → Option (T (Ex × St)) :=
  addL 0 (fun st => .need (st.H.length = 3) (.need (st.tidy 3 [2, 3, 4, 7] [] [] = stGI n g way key tok x y wa wb 0) ((roundM P (onlyS P noS) noL fn.ntmps 0 (loopAt fn 0) 3 [2, 3, 4, 7] [] [] (closeAt [] (stGI n g way key tok x y wa wb e))).bind (lastX 0)))) noL
set_option maxRecDepth 100000 in
theorem great_run (n : Nat) (g : Nat → Mu) (way : Int) (key : ByteArray) (tok x y : Int) (wa wb : ByteArray) (e : Nat) : trimT 1 (runF Try.prog (onlyS Try.prog noS) (LGr Try.prog Try.f14 n g way key tok x y wa wb e) Try.f14 (Try.f14.body.getD .skip) [.v (.agg #[.int .i64 way, .string key, .int .i64 tok, .int .i64 x, .int .i64 y]), .v (.agg #[.string wa, .string wb]), .ref 0] [.row n 7 fun i j => (g i).c j]) = T.need ((3 : Nat) = (3 : Nat)) (T.need (St.mk [((2 : Nat), some (SV.ref (0 : Nat))), ((3 : Nat), some (SV.ptr (1 : Nat) (0 : Nat))), ((4 : Nat), some (SV.ptr (2 : Nat) (0 : Nat))), ((7 : Nat), some (SV.v (Value.int IntKind.i64 (0 : Int))))] [Blk.row n (7 : Nat) fun i j => (g i).c j, Blk.own [SV.v (Value.int IntKind.i64 way), SV.v (Value.string key), SV.v (Value.int IntKind.i64 tok), SV.v (Value.int IntKind.i64 x), SV.v (Value.int IntKind.i64 y)], Blk.own [SV.v (Value.string wa), SV.v (Value.string wb)]] = stGI n g way key tok x y wa wb (0 : Nat)) (T.ite (decide ((↑e : Int) < (↑n : Int))) (T.ite (decide ((↑e : Int) ≥ (20 : Int))) (T.leaf (SV.tt, [Blk.row n (7 : Nat) fun i j => (g i).c j])) (T.need ((0 : Int) ≤ (↑e : Int) ∧ (↑e : Int) < (↑n : Int)) (T.need ((↑e : Int).toNat < n) (T.ite (decide ((↑(g (↑e : Int).toNat).7.size : Int) > (300 : Int))) (T.leaf (SV.tt, [Blk.row n (7 : Nat) fun i j => (g i).c j])) (T.stuck (39 : Nat)))))) (T.ite (decide ((↑key.size : Int) > (100 : Int))) (T.leaf (SV.tt, [Blk.row n (7 : Nat) fun i j => (g i).c j])) (T.ite (decide ((↑wa.size : Int) > (100 : Int))) (T.leaf (SV.tt, [Blk.row n (7 : Nat) fun i j => (g i).c j])) (T.leaf (SV.v (Value.bool (decide ((↑wb.size : Int) > (100 : Int)))), [Blk.row n (7 : Nat) fun i j => (g i).c j])))))) := by kernel_rfl
def fGreat : List SV → List Blk → Option (T (SV × List Blk))
  | [.v (.agg ⟨[.int .i64 _, .string key, .int .i64 _, .int .i64 _, .int .i64 _]⟩), .v (.agg ⟨[.string wa, .string wb]⟩), .ref 0], [.row n 7 f] => some (.need (AllMu n f) (.ite (Nat.blt (firstOf (earlyJ (muF f)) n 0) n) (.leaf (.tt, [.row n 7 fun i j => (muF f i).c j]))
      (.ite (decide ((key.size : Int) > 100)) (.leaf (.tt, [.row n 7 fun i j => (muF f i).c j])) (.ite (decide ((wa.size : Int) > 100)) (.leaf (.tt, [.row n 7 fun i j => (muF f i).c j])) (.leaf (.v (.bool (decide ((wb.size : Int) > 100))), [.row n 7 fun i j => (muF f i).c j]))))))
  | _, _ => none
set_option maxRecDepth 100000 in
theorem fGreat_ok : EntryOk Try.prog 14 fGreat := by
  intro ss H t ht bs B w vs hm hv0 Qs hq
  unfold fGreat at ht
  split at ht
  · rename_i way key tok x y wa wb n f
    simp only [Option.some.injEq] at ht
    subst ht
    obtain ⟨q, hq⟩ := hq
    have hm := mem_row_congr hm (k := 0) (g := fun i j => (muF f i).c j) rfl (fun i j hi hj => q i hi j hj)
    generalize muF f = g at hq hm
    have hm : Mem w bs [.row n 7 fun i j => (g i).c j] B w := hm
    obtain ⟨-, he, h1, h2⟩ := firstOf_spec (earlyJ g) n 0
    rw [Nat.zero_add] at he h2
    generalize firstOf (earlyJ g) n 0 = e at hq he h1 h2
    refine trimT_ok (onlyS_ok noS_ok) follows Try.func14 (by kernel_rfl) (by kernel_rfl) (one_loop (b := loopAt Try.f14 0) (id := 0) (by kernel_rfl) fun st t h => ?_) (great_run n g way key tok x y wa wb e) hm hv0 ?_
    · rw [addL_same h]
      exact loop_cnt (onlyS_ok noS_ok) follows (by kernel_rfl) (noloops (by kernel_rfl)) (fun i => i ≤ e) (stGI n g way key tok x y wa wb) (fun i => e - i) 3 [2, 3, 4, 7] [] [] e [] (stGI_step n g way key tok x y wa wb e he (fun j hj => h1 j (Nat.zero_le _) hj)) (Nat.zero_le _)
    · refine ⟨rfl, rfl, fun hlt => ?_, fun hge => ?_⟩
      · have hlt := of_decide_eq_true hlt
        have hb : Nat.blt e n = true := by rw [Nat.blt_eq]; omega
        have hq := hq.1 hb
        refine ⟨fun _ => hq, fun a => ⟨by omega, by rw [Int.toNat_natCast]; omega, fun _ => hq, fun b => ?_⟩⟩
        have a := of_decide_eq_false a
        have b := of_decide_eq_false b
        rw [Int.toNat_natCast] at b
        have b : ¬ ((g e).bytes.size : Int) > 300 := b
        exact (earlyJ_yes (h2 (by omega)) ⟨by omega, by omega⟩).elim
      · have hge := of_decide_eq_false hge
        have hb : Nat.blt e n = false := by rw [← Bool.not_eq_true, Nat.blt_eq]; omega
        exact hq.2 hb
  · cases ht
/-! the first of a kind -/
def mu0 : Mu := ⟨0, 0, 0, 0, 0, 0, ⟨⟨[]⟩⟩⟩
def Mu.v (m : Mu) : Value := .agg #[.int .i64 m.kind, .int .i64 m.addr, .int .i64 m.prio, .int .i64 m.num, .int .i64 m.token, .int .i64 m.nonce, .string m.bytes]
def isKind (g : Nat → Mu) (kind : Int) (i : Nat) : Bool := decide ((g i).kind = kind)
def stF (n : Nat) (g : Nat → Mu) (kind : Int) (i : Int) : St := ⟨[(1, some (.v (.int .i64 kind))), (4, some (.ptr 1 0)), (8, some (.ref 0)), (9, some (.v (.int .i64 n))), (10, some (.v (.int .i64 i)))], [.row n 7 (fun i j => (g i).c j), .own [.v (.int .i64 0), .v (.int .i64 0), .v (.int .i64 0), .v (.int .i64 0), .v (.int .i64 0), .v (.int .i64 0), .v (.string ⟨⟨[]⟩⟩)]]⟩
set_option maxRecDepth 100000 in
theorem stF_round (n : Nat) (g : Nat → Mu) (kind : Int) (i : Int) : roundM Try.prog (onlyS Try.prog noS) noL Try.f86.ntmps 0 (loopAt Try.f86 0) 2 [1, 4, 8, 9, 10] [] [] (stF n g kind i) = T.ite (decide (i < (↑n : Int))) (T.need ((0 : Int) ≤ i ∧ i < (↑n : Int)) (T.need (i.toNat < n) (T.ite (decide ((g i.toNat).1 = kind)) (T.leaf (Ex.ret, St.mk [((5 : Nat), some SV.tt), ((18 : Nat), some (SV.v (Value.agg (Array.mk [Value.int IntKind.i64 (g i.toNat).1, Value.int IntKind.i64 (g i.toNat).2, Value.int IntKind.i64 (g i.toNat).3, Value.int IntKind.i64 (g i.toNat).4, Value.int IntKind.i64 (g i.toNat).5, Value.int IntKind.i64 (g i.toNat).6, Value.string (g i.toNat).7])))), ((17 : Nat), some SV.tt), ((17 : Nat), some (SV.v (Value.bool (decide ((g i.toNat).1 = kind))))), ((16 : Nat), some (SV.v (Value.int IntKind.i64 kind))), ((15 : Nat), some (SV.v (Value.int IntKind.i64 (g i.toNat).1))), ((14 : Nat), some (SV.ptr (2 : Nat) (0 : Nat))), ((7 : Nat), some (SV.ptr (2 : Nat) (0 : Nat))), ((13 : Nat), some (SV.v (Value.agg (Array.mk [Value.int IntKind.i64 (g i.toNat).1, Value.int IntKind.i64 (g i.toNat).2, Value.int IntKind.i64 (g i.toNat).3, Value.int IntKind.i64 (g i.toNat).4, Value.int IntKind.i64 (g i.toNat).5, Value.int IntKind.i64 (g i.toNat).6, Value.string (g i.toNat).7])))), ((12 : Nat), some (SV.elt (0 : Nat) (7 : Nat) i.toNat (0 : Nat))), ((11 : Nat), some SV.tt), ((11 : Nat), some (SV.v (Value.bool (decide (i < (↑n : Int)))))), ((1 : Nat), some (SV.v (Value.int IntKind.i64 kind))), ((4 : Nat), some (SV.ptr (1 : Nat) (0 : Nat))), ((8 : Nat), some (SV.ref (0 : Nat))), ((9 : Nat), some (SV.v (Value.int IntKind.i64 (↑n : Int)))), ((10 : Nat), some (SV.v (Value.int IntKind.i64 i)))] [Blk.row n (7 : Nat) fun i j => (g i).c j, Blk.own [SV.v (Value.int IntKind.i64 (g i.toNat).1), SV.v (Value.int IntKind.i64 (g i.toNat).2), SV.v (Value.int IntKind.i64 (g i.toNat).3), SV.v (Value.int IntKind.i64 (g i.toNat).4), SV.v (Value.int IntKind.i64 (g i.toNat).5), SV.v (Value.int IntKind.i64 (g i.toNat).6), SV.v (Value.string (g i.toNat).7)], Blk.own [SV.v (Value.int IntKind.i64 (g i.toNat).1), SV.v (Value.int IntKind.i64 (g i.toNat).2), SV.v (Value.int IntKind.i64 (g i.toNat).3), SV.v (Value.int IntKind.i64 (g i.toNat).4), SV.v (Value.int IntKind.i64 (g i.toNat).5), SV.v (Value.int IntKind.i64 (g i.toNat).6), SV.v (Value.string (g i.toNat).7)]])) (T.leaf (Ex.normal, St.mk [((1 : Nat), some (SV.v (Value.int IntKind.i64 kind))), ((4 : Nat), some (SV.ptr (1 : Nat) (0 : Nat))), ((8 : Nat), some (SV.ref (0 : Nat))), ((9 : Nat), some (SV.v (Value.int IntKind.i64 (↑n : Int)))), ((10 : Nat), some (SV.v (Value.int IntKind.i64 (IntKind.i64.wrap (i + (1 : Int))))))] [Blk.row n (7 : Nat) fun i j => (g i).c j, Blk.own [SV.v (Value.int IntKind.i64 (0 : Int)), SV.v (Value.int IntKind.i64 (0 : Int)), SV.v (Value.int IntKind.i64 (0 : Int)), SV.v (Value.int IntKind.i64 (0 : Int)), SV.v (Value.int IntKind.i64 (0 : Int)), SV.v (Value.int IntKind.i64 (0 : Int)), SV.v (Value.string (ByteArray.mk (Array.mk [])))]]))))) (T.leaf (Ex.exit (0 : Nat), St.mk [((1 : Nat), some (SV.v (Value.int IntKind.i64 kind))), ((4 : Nat), some (SV.ptr (1 : Nat) (0 : Nat))), ((8 : Nat), some (SV.ref (0 : Nat))), ((9 : Nat), some (SV.v (Value.int IntKind.i64 (↑n : Int)))), ((10 : Nat), some (SV.v (Value.int IntKind.i64 i)))] [Blk.row n (7 : Nat) fun i j => (g i).c j, Blk.own [SV.v (Value.int IntKind.i64 (0 : Int)), SV.v (Value.int IntKind.i64 (0 : Int)), SV.v (Value.int IntKind.i64 (0 : Int)), SV.v (Value.int IntKind.i64 (0 : Int)), SV.v (Value.int IntKind.i64 (0 : Int)), SV.v (Value.int IntKind.i64 (0 : Int)), SV.v (Value.string (ByteArray.mk (Array.mk [])))]])) := by kernel_rfl
def LFind (P : Program) (fn : Func) (n : Nat) (g : Nat → Mu) (kind : Int) (e : Nat) : Nat → St → Option (T (Ex × St)) :=
  addL 0 (fun st => .need (st.H.length = 2) (.need (st.tidy 2 [1, 4, 8, 9, 10] [] [] = stF n g kind (0 : Nat)) ((roundM P (onlyS P noS) noL fn.ntmps 0 (loopAt fn 0) 2 [1, 4, 8, 9, 10] [] [] (closeAt [] (stF n g kind (e : Nat)))).bind (lastX 0)))) noL
set_option maxRecDepth 100000 in
theorem find_run (n : Nat) (g : Nat → Mu) (kind : Int) (e : Nat) : trimT 1 (runF Try.prog (onlyS Try.prog noS) (LFind Try.prog Try.f86 n g kind e) Try.f86 (Try.f86.body.getD .skip) [.ref 0, .v (.int .i64 kind)] [.row n 7 fun i j => (g i).c j]) = T.need ((2 : Nat) = (2 : Nat)) (T.need (St.mk [((1 : Nat), some (SV.v (Value.int IntKind.i64 kind))), ((4 : Nat), some (SV.ptr (1 : Nat) (0 : Nat))), ((8 : Nat), some (SV.ref (0 : Nat))), ((9 : Nat), some (SV.v (Value.int IntKind.i64 (↑n : Int)))), ((10 : Nat), some (SV.v (Value.int IntKind.i64 (0 : Int))))] [Blk.row n (7 : Nat) fun i j => (g i).c j, Blk.own [SV.v (Value.int IntKind.i64 (0 : Int)), SV.v (Value.int IntKind.i64 (0 : Int)), SV.v (Value.int IntKind.i64 (0 : Int)), SV.v (Value.int IntKind.i64 (0 : Int)), SV.v (Value.int IntKind.i64 (0 : Int)), SV.v (Value.int IntKind.i64 (0 : Int)), SV.v (Value.string (ByteArray.mk (Array.mk [])))]] = stF n g kind (0 : Int)) (T.ite (decide ((↑e : Int) < (↑n : Int))) (T.need ((0 : Int) ≤ (↑e : Int) ∧ (↑e : Int) < (↑n : Int)) (T.need ((↑e : Int).toNat < n) (T.ite (decide ((g (↑e : Int).toNat).1 = kind)) (T.leaf (SV.v (Value.tuple (Array.mk [Value.agg (Array.mk [Value.int IntKind.i64 (g (↑e : Int).toNat).1, Value.int IntKind.i64 (g (↑e : Int).toNat).2, Value.int IntKind.i64 (g (↑e : Int).toNat).3, Value.int IntKind.i64 (g (↑e : Int).toNat).4, Value.int IntKind.i64 (g (↑e : Int).toNat).5, Value.int IntKind.i64 (g (↑e : Int).toNat).6, Value.string (g (↑e : Int).toNat).7]), Value.bool true])), [Blk.row n (7 : Nat) fun i j => (g i).c j])) (T.stuck (39 : Nat))))) (T.leaf (SV.v (Value.tuple (Array.mk [Value.agg (Array.mk [Value.int IntKind.i64 (0 : Int), Value.int IntKind.i64 (0 : Int), Value.int IntKind.i64 (0 : Int), Value.int IntKind.i64 (0 : Int), Value.int IntKind.i64 (0 : Int), Value.int IntKind.i64 (0 : Int), Value.string (ByteArray.mk (Array.mk []))]), Value.bool false])), [Blk.row n (7 : Nat) fun i j => (g i).c j])))) := by kernel_rfl
def findE (n : Nat) (g : Nat → Mu) (kind : Int) : Nat := firstOf (isKind g kind) n 0
def findB (n : Nat) (g : Nat → Mu) (kind : Int) : Bool := Nat.blt (findE n g kind) n
def findM (n : Nat) (g : Nat → Mu) (kind : Int) : Mu := if findB n g kind = true then g (findE n g kind) else mu0
set_option maxRecDepth 100000 in
theorem stF_step (n : Nat) (g : Nat → Mu) (kind : Int) (hn : n ≤ maxLen) (e : Nat) (he : e ≤ n) (hk : ∀ j, j < e → isKind g kind j = false) : ∀ i : Nat, i ≤ e → i ≠ e → (roundM Try.prog (onlyS Try.prog noS) noL Try.f86.ntmps 0 (loopAt Try.f86 0) 2 [1, 4, 8, 9, 10] [] [] (stF n g kind (i : Nat))).ok fun r => r.1 = .normal ∧ ∃ j, j ≤ e ∧ e - j < e - i ∧ r.2 = stF n g kind (j : Nat) := by
  intro i hi hne
  unfold maxLen at hn
  have hlt : i < e := by omega
  have hi2 := of_decide_eq_false (hk i hlt)
  have hw : IntKind.i64.wrap ((i : Int) + 1) = ((i + 1 : Nat) : Int) := by rw [w64 _ (by omega) (by omega)]; rfl
  rw [stF_round]
  simp only [Int.toNat_natCast, hw]
  refine ⟨fun _ => ⟨by omega, by omega, fun h => (hi2 (of_decide_eq_true h)).elim, fun _ => ⟨rfl, i + 1, by omega, by omega, rfl⟩⟩, fun h => ?_⟩
  have h := of_decide_eq_false h
  omega
def fFind : List SV → List Blk → Option (T (SV × List Blk))
  | [.ref 0, .v (.int .i64 kind)], [.row n 7 f] => some (.need (n ≤ maxLen ∧ AllMu n f) (.leaf (.v (.tuple #[(findM n (muF f) kind).v, .bool (findB n (muF f) kind)]), [.row n 7 fun i j => (muF f i).c j])))
  | _, _ => none
set_option maxRecDepth 100000 in
theorem fFind_ok : EntryOk Try.prog 86 fFind := by
  intro ss H t ht bs B w vs hm hv0 Qs hq
  unfold fFind at ht
  split at ht
  · rename_i kind n f
    simp only [Option.some.injEq] at ht
    subst ht
    obtain ⟨⟨hn, q⟩, hq⟩ := hq
    have hm := mem_row_congr hm (k := 0) (g := fun i j => (muF f i).c j) rfl (fun i j hi hj => q i hi j hj)
    generalize muF f = g at hq hm
    have hm : Mem w bs [.row n 7 fun i j => (g i).c j] B w := hm
    obtain ⟨-, he, h1, h2⟩ := firstOf_spec (isKind g kind) n 0
    rw [Nat.zero_add] at he h2
    have hE : firstOf (isKind g kind) n 0 = findE n g kind := rfl
    rw [hE] at he h1 h2
    refine trimT_ok (onlyS_ok noS_ok) follows Try.func86 (by kernel_rfl) (by kernel_rfl) (one_loop (b := loopAt Try.f86 0) (id := 0) (by kernel_rfl) fun st t h => ?_) (find_run n g kind (findE n g kind)) hm hv0 ?_
    · rw [addL_same h]
      exact loop_cnt (onlyS_ok noS_ok) follows (by kernel_rfl) (noloops (by kernel_rfl)) (fun i => i ≤ findE n g kind) (fun i => stF n g kind (i : Nat)) (fun i => findE n g kind - i) 2 [1, 4, 8, 9, 10] [] [] (findE n g kind) [] (stF_step n g kind hn _ he (fun j hj => h1 j (Nat.zero_le _) hj)) (Nat.zero_le _)
    · refine ⟨rfl, rfl, fun hlt => ?_, fun hge => ?_⟩
      · have hlt := of_decide_eq_true hlt
        have hb : findB n g kind = true := by unfold findB; rw [Nat.blt_eq]; omega
        have hM : findM n g kind = g (findE n g kind) := by unfold findM; rw [if_pos hb]
        rw [hM, hb] at hq
        refine ⟨by omega, by rw [Int.toNat_natCast]; omega, fun _ => by rw [Int.toNat_natCast]; exact hq, fun hk => ?_⟩
        have hk := of_decide_eq_false hk
        rw [Int.toNat_natCast] at hk
        exact (hk (of_decide_eq_true (h2 (by omega)))).elim
      · have hge := of_decide_eq_false hge
        have hb : findB n g kind = false := by unfold findB; rw [← Bool.not_eq_true, Nat.blt_eq]; omega
        have hM : findM n g kind = mu0 := by unfold findM; rw [hb, if_neg (by decide)]
        rw [hM, hb] at hq
        exact hq
  · cases ht
end Go.Proofs.Ytcighnkhfamloaa
