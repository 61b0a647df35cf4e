/- Packets that are the same: trees. No conditions. -/
import Derived.Test.YtikiieclbeiicaaPaA
namespace Go.Proofs.Ytikiieclbeiicaa
set_option linter.unusedVariables false
set_option linter.unusedSimpArgs false
open Go.RowKit Sym Go.ChangeShapes Go.WideShapes Go.ChangeMaps Inet

def difO (g h : Nat → Op) (i : Nat) : Bool := !(decide ((g i).kind = (h i).kind) && decide ((g i).val = (h i).val))
def sameO (n : Nat) (g : Nat → Op) (m : Nat) (h : Nat → Op) : Bool := decide (n = m) && !Nat.blt (firstOf (difO g h) n 0) n
def samePk (p q : Pk) : Bool := decide (p.long = q.long) && decide (p.kind = q.kind) && decide (p.src = q.src) && decide (p.dst = q.dst) && decide (p.ccval = q.ccval) && decide (p.cover = q.cover) && decide (p.seq = q.seq) && decide (p.ack = q.ack) && decide (p.service = q.service) && decide (p.code = q.code) && decide (p.detail = q.detail) && decide (p.data = q.data)
def sameP (p : Pk) (n : Nat) (g : Nat → Op) (q : Pk) (m : Nat) (h : Nat → Op) : Bool := samePk p q && sameO n g m h
def eq_st (n m : Nat) (g h : Nat → Op) (i : Int) : St := ⟨[(0, some (.ref 0)), (1, some (.ref 1)), (12, some (.v (.int .i64 n))), (13, some (.v (.int .i64 i)))], [.row n 2 fun i j => (g i).c j, .row m 2 fun i j => (h i).c j]⟩
set_option maxRecDepth 100000 in
theorem eq_round (n m : Nat) (g h : Nat → Op) (i : Int) : roundM Try.prog (onlyS Try.prog noS) noL Try.f53.ntmps 0 (loopAt Try.f53 0) 2 [0, 1, 12, 13] [] [] (eq_st n m g h i) = T.ite (decide (i < (↑n : Int))) (T.need ((0 : Int) ≤ i ∧ i < (↑n : Int)) (T.need (i.toNat < n) (T.need ((0 : Int) ≤ i ∧ i < (↑m : Int)) (T.need (i.toNat < m) (T.ite (!(decide ((g i.toNat).1 = (h i.toNat).1) && (decide ((g i.toNat).2 = (h i.toNat).2) && true))) (T.leaf (Ex.ret, St.mk [((4 : Nat), some SV.ff), ((24 : Nat), some SV.tt), ((24 : Nat), some (SV.v (Value.bool !(decide ((g i.toNat).1 = (h i.toNat).1) && (decide ((g i.toNat).2 = (h i.toNat).2) && true))))), ((23 : Nat), some (SV.v (Value.agg (Array.mk [Value.int IntKind.i64 (h i.toNat).1, Value.string (h i.toNat).2])))), ((22 : Nat), some (SV.elt (1 : Nat) (2 : Nat) i.toNat (0 : Nat))), ((21 : Nat), some (SV.v (Value.int IntKind.i64 i))), ((20 : Nat), some (SV.ref (1 : Nat))), ((19 : Nat), some (SV.v (Value.agg (Array.mk [Value.int IntKind.i64 (g i.toNat).1, Value.string (g i.toNat).2])))), ((18 : Nat), some (SV.elt (0 : Nat) (2 : Nat) i.toNat (0 : Nat))), ((17 : Nat), some (SV.v (Value.int IntKind.i64 i))), ((16 : Nat), some (SV.ref (0 : Nat))), ((5 : Nat), some (SV.v (Value.int IntKind.i64 i))), ((15 : Nat), some (SV.v (Value.int IntKind.i64 i))), ((14 : Nat), some SV.tt), ((14 : Nat), some (SV.v (Value.bool (decide (i < (↑n : Int)))))), ((0 : Nat), some (SV.ref (0 : Nat))), ((1 : Nat), some (SV.ref (1 : Nat))), ((12 : Nat), some (SV.v (Value.int IntKind.i64 (↑n : Int)))), ((13 : Nat), some (SV.v (Value.int IntKind.i64 i)))] [Blk.row n (2 : Nat) fun i j => (g i).c j, Blk.row m (2 : Nat) fun i j => (h i).c j])) (T.leaf (Ex.normal, St.mk [((0 : Nat), some (SV.ref (0 : Nat))), ((1 : Nat), some (SV.ref (1 : Nat))), ((12 : Nat), some (SV.v (Value.int IntKind.i64 (↑n : Int)))), ((13 : Nat), some (SV.v (Value.int IntKind.i64 (IntKind.i64.wrap (i + (1 : Int))))))] [Blk.row n (2 : Nat) fun i j => (g i).c j, Blk.row m (2 : Nat) fun i j => (h i).c j]))))))) (T.leaf (Ex.exit (0 : Nat), St.mk [((0 : Nat), some (SV.ref (0 : Nat))), ((1 : Nat), some (SV.ref (1 : Nat))), ((12 : Nat), some (SV.v (Value.int IntKind.i64 (↑n : Int)))), ((13 : Nat), some (SV.v (Value.int IntKind.i64 i)))] [Blk.row n (2 : Nat) fun i j => (g i).c j, Blk.row m (2 : Nat) fun i j => (h i).c j])) := by kernel_rfl
def Leq (P : Program) (fn : Func) (n m : Nat) (g h : Nat → Op) (e : Nat) : Nat → St → Option (T (Ex × St)) :=
  addL 0 (fun st => .need (n = m) (.need (st.H.length = 2) (.need (st.tidy 2 [0, 1, 12, 13] [] [] = eq_st n m g h (0 : Nat)) ((roundM P (onlyS P noS) noL fn.ntmps 0 (loopAt fn 0) 2 [0, 1, 12, 13] [] [] (closeAt [] (eq_st n m g h (e : Nat)))).bind (lastX 0))))) noL
set_option maxRecDepth 100000 in
theorem eq_run (n m : Nat) (g h : Nat → Op) (e : Nat) : runO Try.prog (onlyS Try.prog noS) (Leq Try.prog Try.f53 n m g h e) Try.f53 [.ref 0, .ref 1] [.row n 2 fun i j => (g i).c j, .row m 2 fun i j => (h i).c j] = T.ite (!decide ((↑n : Int) = (↑m : Int))) (T.leaf (Value.bool false)) (T.need (n = m) (T.need ((2 : Nat) = (2 : Nat)) (T.need (St.mk [((0 : Nat), some (SV.ref (0 : Nat))), ((1 : Nat), some (SV.ref (1 : Nat))), ((12 : Nat), some (SV.v (Value.int IntKind.i64 (↑n : Int)))), ((13 : Nat), some (SV.v (Value.int IntKind.i64 (0 : Int))))] [Blk.row n (2 : Nat) fun i j => (g i).c j, Blk.row m (2 : Nat) fun i j => (h i).c j] = eq_st n m g h (0 : Int)) (T.ite (decide ((↑e : Int) < (↑n : Int))) (T.need ((0 : Int) ≤ (↑e : Int) ∧ (↑e : Int) < (↑n : Int)) (T.need ((↑e : Int).toNat < n) (T.need ((0 : Int) ≤ (↑e : Int) ∧ (↑e : Int) < (↑m : Int)) (T.need ((↑e : Int).toNat < m) (T.ite (!(decide ((g (↑e : Int).toNat).1 = (h (↑e : Int).toNat).1) && (decide ((g (↑e : Int).toNat).2 = (h (↑e : Int).toNat).2) && true))) (T.leaf (Value.bool false)) (T.stuck (39 : Nat))))))) (T.leaf (Value.bool true)))))) := by kernel_rfl
def rs_st (p q : Pk) (n m : Nat) (g h : Nat → Op) (i : Int) : St := ⟨[(2, some (.ptr 2 0)), (3, some (.ptr 3 0)), (5, some (.v (.int .i64 i)))], [.row n 2 fun i j => (g i).c j, .row m 2 fun i j => (h i).c j,
  .own [.v (.int .i64 p.kind), .v (.bool p.long), .v (.int .i64 p.src), .v (.int .i64 p.dst), .v (.int .i64 p.ccval), .v (.int .i64 p.cover), .v (.int .i64 p.seq), .v (.int .i64 p.ack), .v (.int .i64 p.service), .v (.int .i64 p.code), .v (.int .i64 p.detail), .ref 0, .v (.string p.data)],
  .own [.v (.int .i64 q.kind), .v (.bool q.long), .v (.int .i64 q.src), .v (.int .i64 q.dst), .v (.int .i64 q.ccval), .v (.int .i64 q.cover), .v (.int .i64 q.seq), .v (.int .i64 q.ack), .v (.int .i64 q.service), .v (.int .i64 q.code), .v (.int .i64 q.detail), .ref 1, .v (.string q.data)]]⟩
set_option maxRecDepth 100000 in
theorem rs_round (p q : Pk) (n m : Nat) (g h : Nat → Op) (i : Int) : roundM Try.prog (onlyS Try.prog noS) noL Try.f14.ntmps 0 (loopAt Try.f14 0) 4 [2, 3, 5] [] [] (rs_st p q n m g h i) = T.ite (decide (i < (↑n : Int))) (T.need ((0 : Int) ≤ i ∧ i < (↑n : Int)) (T.need (i.toNat < n) (T.need ((0 : Int) ≤ i ∧ i < (↑m : Int)) (T.need (i.toNat < m) (T.ite (!(decide ((g i.toNat).1 = (h i.toNat).1) && (decide ((g i.toNat).2 = (h i.toNat).2) && true))) (T.leaf (Ex.ret, St.mk [((4 : Nat), some SV.ff), ((30 : Nat), some SV.tt), ((30 : Nat), some (SV.v (Value.bool !(decide ((g i.toNat).1 = (h i.toNat).1) && (decide ((g i.toNat).2 = (h i.toNat).2) && true))))), ((29 : Nat), some (SV.v (Value.agg (Array.mk [Value.int IntKind.i64 (h i.toNat).1, Value.string (h i.toNat).2])))), ((28 : Nat), some (SV.elt (1 : Nat) (2 : Nat) i.toNat (0 : Nat))), ((27 : Nat), some (SV.v (Value.int IntKind.i64 i))), ((26 : Nat), some (SV.ref (1 : Nat))), ((25 : Nat), some (SV.ptr (3 : Nat) (11 : Nat))), ((24 : Nat), some (SV.v (Value.agg (Array.mk [Value.int IntKind.i64 (g i.toNat).1, Value.string (g i.toNat).2])))), ((23 : Nat), some (SV.elt (0 : Nat) (2 : Nat) i.toNat (0 : Nat))), ((22 : Nat), some (SV.v (Value.int IntKind.i64 i))), ((21 : Nat), some (SV.ref (0 : Nat))), ((20 : Nat), some (SV.ptr (2 : Nat) (11 : Nat))), ((17 : Nat), some SV.tt), ((17 : Nat), some (SV.v (Value.bool (decide (i < (↑n : Int)))))), ((16 : Nat), some (SV.v (Value.int IntKind.i64 (↑n : Int)))), ((15 : Nat), some (SV.ref (0 : Nat))), ((14 : Nat), some (SV.ptr (2 : Nat) (11 : Nat))), ((13 : Nat), some (SV.v (Value.int IntKind.i64 i))), ((2 : Nat), some (SV.ptr (2 : Nat) (0 : Nat))), ((3 : Nat), some (SV.ptr (3 : Nat) (0 : Nat))), ((5 : Nat), some (SV.v (Value.int IntKind.i64 i)))] [Blk.row n (2 : Nat) fun i j => (g i).c j, Blk.row m (2 : Nat) fun i j => (h i).c j, Blk.own [SV.v (Value.int IntKind.i64 p.1), SV.v (Value.bool p.2), SV.v (Value.int IntKind.i64 p.3), SV.v (Value.int IntKind.i64 p.4), SV.v (Value.int IntKind.i64 p.5), SV.v (Value.int IntKind.i64 p.6), SV.v (Value.int IntKind.i64 p.7), SV.v (Value.int IntKind.i64 p.8), SV.v (Value.int IntKind.i64 p.9), SV.v (Value.int IntKind.i64 p.10), SV.v (Value.int IntKind.i64 p.11), SV.ref (0 : Nat), SV.v (Value.string p.12)], Blk.own [SV.v (Value.int IntKind.i64 q.1), SV.v (Value.bool q.2), SV.v (Value.int IntKind.i64 q.3), SV.v (Value.int IntKind.i64 q.4), SV.v (Value.int IntKind.i64 q.5), SV.v (Value.int IntKind.i64 q.6), SV.v (Value.int IntKind.i64 q.7), SV.v (Value.int IntKind.i64 q.8), SV.v (Value.int IntKind.i64 q.9), SV.v (Value.int IntKind.i64 q.10), SV.v (Value.int IntKind.i64 q.11), SV.ref (1 : Nat), SV.v (Value.string q.12)]])) (T.leaf (Ex.normal, St.mk [((2 : Nat), some (SV.ptr (2 : Nat) (0 : Nat))), ((3 : Nat), some (SV.ptr (3 : Nat) (0 : Nat))), ((5 : Nat), some (SV.v (Value.int IntKind.i64 (IntKind.i64.wrap (i + (1 : Int))))))] [Blk.row n (2 : Nat) fun i j => (g i).c j, Blk.row m (2 : Nat) fun i j => (h i).c j, Blk.own [SV.v (Value.int IntKind.i64 p.1), SV.v (Value.bool p.2), SV.v (Value.int IntKind.i64 p.3), SV.v (Value.int IntKind.i64 p.4), SV.v (Value.int IntKind.i64 p.5), SV.v (Value.int IntKind.i64 p.6), SV.v (Value.int IntKind.i64 p.7), SV.v (Value.int IntKind.i64 p.8), SV.v (Value.int IntKind.i64 p.9), SV.v (Value.int IntKind.i64 p.10), SV.v (Value.int IntKind.i64 p.11), SV.ref (0 : Nat), SV.v (Value.string p.12)], Blk.own [SV.v (Value.int IntKind.i64 q.1), SV.v (Value.bool q.2), SV.v (Value.int IntKind.i64 q.3), SV.v (Value.int IntKind.i64 q.4), SV.v (Value.int IntKind.i64 q.5), SV.v (Value.int IntKind.i64 q.6), SV.v (Value.int IntKind.i64 q.7), SV.v (Value.int IntKind.i64 q.8), SV.v (Value.int IntKind.i64 q.9), SV.v (Value.int IntKind.i64 q.10), SV.v (Value.int IntKind.i64 q.11), SV.ref (1 : Nat), SV.v (Value.string q.12)]]))))))) (T.leaf (Ex.exit (0 : Nat), St.mk [((2 : Nat), some (SV.ptr (2 : Nat) (0 : Nat))), ((3 : Nat), some (SV.ptr (3 : Nat) (0 : Nat))), ((5 : Nat), some (SV.v (Value.int IntKind.i64 i)))] [Blk.row n (2 : Nat) fun i j => (g i).c j, Blk.row m (2 : Nat) fun i j => (h i).c j, Blk.own [SV.v (Value.int IntKind.i64 p.1), SV.v (Value.bool p.2), SV.v (Value.int IntKind.i64 p.3), SV.v (Value.int IntKind.i64 p.4), SV.v (Value.int IntKind.i64 p.5), SV.v (Value.int IntKind.i64 p.6), SV.v (Value.int IntKind.i64 p.7), SV.v (Value.int IntKind.i64 p.8), SV.v (Value.int IntKind.i64 p.9), SV.v (Value.int IntKind.i64 p.10), SV.v (Value.int IntKind.i64 p.11), SV.ref (0 : Nat), SV.v (Value.string p.12)], Blk.own [SV.v (Value.int IntKind.i64 q.1), SV.v (Value.bool q.2), SV.v (Value.int IntKind.i64 q.3), SV.v (Value.int IntKind.i64 q.4), SV.v (Value.int IntKind.i64 q.5), SV.v (Value.int IntKind.i64 q.6), SV.v (Value.int IntKind.i64 q.7), SV.v (Value.int IntKind.i64 q.8), SV.v (Value.int IntKind.i64 q.9), SV.v (Value.int IntKind.i64 q.10), SV.v (Value.int IntKind.i64 q.11), SV.ref (1 : Nat), SV.v (Value.string q.12)]])) := by kernel_rfl
def Lrs (P : Program) (fn : Func) (p q : Pk) (n m : Nat) (g h : Nat → Op) (e : Nat) : Nat → St → Option (T (Ex × St)) :=
  addL 0 (fun st => .need (n = m) (.need (st.H.length = 4) (.need (st.tidy 4 [2, 3, 5] [] [] = rs_st p q n m g h (0 : Nat)) ((roundM P (onlyS P noS) noL fn.ntmps 0 (loopAt fn 0) 4 [2, 3, 5] [] [] (closeAt [] (rs_st p q n m g h (e : Nat)))).bind (lastX 0))))) noL
set_option maxRecDepth 100000 in
theorem rs_run (p q : Pk) (n m : Nat) (g h : Nat → Op) (e : Nat) : runO Try.prog (onlyS Try.prog noS) (Lrs Try.prog Try.f14 p q n m g h e) Try.f14 [p.s (.ref 0), q.s (.ref 1)] [.row n 2 fun i j => (g i).c j, .row m 2 fun i j => (h i).c j] = T.ite (!decide ((↑n : Int) = (↑m : Int))) (T.leaf (Value.bool false)) (T.need (n = m) (T.need ((4 : Nat) = (4 : Nat)) (T.need (St.mk [((2 : Nat), some (SV.ptr (2 : Nat) (0 : Nat))), ((3 : Nat), some (SV.ptr (3 : Nat) (0 : Nat))), ((5 : Nat), some (SV.v (Value.int IntKind.i64 (0 : Int))))] [Blk.row n (2 : Nat) fun i j => (g i).c j, Blk.row m (2 : Nat) fun i j => (h i).c j, Blk.own [SV.v (Value.int IntKind.i64 p.1), SV.v (Value.bool p.2), SV.v (Value.int IntKind.i64 p.3), SV.v (Value.int IntKind.i64 p.4), SV.v (Value.int IntKind.i64 p.5), SV.v (Value.int IntKind.i64 p.6), SV.v (Value.int IntKind.i64 p.7), SV.v (Value.int IntKind.i64 p.8), SV.v (Value.int IntKind.i64 p.9), SV.v (Value.int IntKind.i64 p.10), SV.v (Value.int IntKind.i64 p.11), SV.ref (0 : Nat), SV.v (Value.string p.12)], Blk.own [SV.v (Value.int IntKind.i64 q.1), SV.v (Value.bool q.2), SV.v (Value.int IntKind.i64 q.3), SV.v (Value.int IntKind.i64 q.4), SV.v (Value.int IntKind.i64 q.5), SV.v (Value.int IntKind.i64 q.6), SV.v (Value.int IntKind.i64 q.7), SV.v (Value.int IntKind.i64 q.8), SV.v (Value.int IntKind.i64 q.9), SV.v (Value.int IntKind.i64 q.10), SV.v (Value.int IntKind.i64 q.11), SV.ref (1 : Nat), SV.v (Value.string q.12)]] = rs_st p q n m g h (0 : Int)) (T.ite (decide ((↑e : Int) < (↑n : Int))) (T.need ((0 : Int) ≤ (↑e : Int) ∧ (↑e : Int) < (↑n : Int)) (T.need ((↑e : Int).toNat < n) (T.need ((0 : Int) ≤ (↑e : Int) ∧ (↑e : Int) < (↑m : Int)) (T.need ((↑e : Int).toNat < m) (T.ite (!(decide ((g (↑e : Int).toNat).1 = (h (↑e : Int).toNat).1) && (decide ((g (↑e : Int).toNat).2 = (h (↑e : Int).toNat).2) && true))) (T.leaf (Value.bool false)) (T.stuck (39 : Nat))))))) (T.ite (decide (p.1 = q.1)) (T.ite (decide (p.2 = q.2)) (T.ite (decide (p.3 = q.3)) (T.ite (decide (p.4 = q.4)) (T.ite (decide (p.5 = q.5)) (T.ite (decide (p.6 = q.6)) (T.ite (decide (p.7 = q.7)) (T.ite (decide (p.8 = q.8)) (T.ite (decide (p.9 = q.9)) (T.ite (decide (p.10 = q.10)) (T.ite (decide (p.11 = q.11)) (T.leaf (Value.bool (decide (p.12 = q.12)))) (T.leaf (Value.bool false))) (T.leaf (Value.bool false))) (T.leaf (Value.bool false))) (T.leaf (Value.bool false))) (T.leaf (Value.bool false))) (T.leaf (Value.bool false))) (T.leaf (Value.bool false))) (T.leaf (Value.bool false))) (T.leaf (Value.bool false))) (T.leaf (Value.bool false))) (T.leaf (Value.bool false))))))) := by kernel_rfl
end Go.Proofs.Ytikiieclbeiicaa
namespace Go.Proofs.Ytikiieclbeiicaa
set_option linter.unusedVariables false
set_option linter.unusedSimpArgs false
open Go.RowKit Sym Go.ChangeShapes Go.WideShapes Go.ChangeMaps Inet

theorem difO_no {g h : Nat → Op} {i : Nat} (e : difO g h i = false) : (g i).kind = (h i).kind ∧ (g i).val = (h i).val := by
  unfold difO at e
  simpa using e
theorem difO_yes {g h : Nat → Op} {i : Nat} (e : difO g h i = true) : ¬ ((g i).kind = (h i).kind ∧ (g i).val = (h i).val) := by
  unfold difO at e
  simp at e
  rintro ⟨a, b⟩
  rcases e with e | e
  · exact e a
  · exact e b
set_option maxRecDepth 100000 in
theorem eq_step (n m : Nat) (g h : Nat → Op) (hn : n ≤ maxLen) (hnm : n = m) : ∀ i : Nat, i ≤ firstOf (difO g h) n 0 → i ≠ firstOf (difO g h) n 0 → (roundM Try.prog (onlyS Try.prog noS) noL Try.f53.ntmps 0 (loopAt Try.f53 0) 2 [0, 1, 12, 13] [] [] (eq_st n m g h (i : Nat))).ok fun r => r.1 = .normal ∧ ∃ j, j ≤ firstOf (difO g h) n 0 ∧ firstOf (difO g h) n 0 - j < firstOf (difO g h) n 0 - i ∧ r.2 = eq_st n m g h (j : Nat) := by
  intro i hi hne
  obtain ⟨he, h1, -⟩ := firstOf_le (difO g h) n
  unfold maxLen at hn
  obtain ⟨d1, d2⟩ := difO_no (h1 i (by omega))
  have hw : IntKind.i64.wrap ((i : Int) + 1) = ((i + 1 : Nat) : Int) := by rw [w64 _ (by omega) (by omega)]; rfl
  have fin : ∃ j, j ≤ firstOf (difO g h) n 0 ∧ firstOf (difO g h) n 0 - j < firstOf (difO g h) n 0 - i ∧ eq_st n m g h ((i + 1 : Nat) : Int) = eq_st n m g h (j : Nat) := ⟨i + 1, by omega, by omega, rfl⟩
  rw [eq_round]
  simp only [Int.toNat_natCast, hw, T.ok, decide_eq_true_eq, decide_eq_false_iff_not, d1, d2, decide_true, Bool.and_self, Bool.not_true]
  repeat' (first | refine And.intro ?_ ?_ | intro _)
  all_goals first | omega | exact ⟨rfl, fin⟩ | rfl | exact fin | contradiction
set_option maxRecDepth 100000 in
theorem opts_equal (n m : Nat) (g h : Nat → Op) (hn : n ≤ maxLen) (v u : Value) (w : World) (hv : ∀ B, BlkSat B w v (.row n 2 fun i j => (g i).c j)) (hu : ∀ B, BlkSat B w u (.row m 2 fun i j => (h i).c j)) : Calls Try.prog 53 #[v, u] w fun e w' => e = .returned (.bool (sameO n g m h)) ∧ Below w.heap.size w w' := by
  obtain ⟨he, h1, h2⟩ := firstOf_le (difO g h) n
  refine calls_runO (onlyS_ok noS_ok) follows Try.func53 (by kernel_rfl) (by kernel_rfl) (one_loop (b := loopAt Try.f53 0) (id := 0) (by kernel_rfl) fun st t hh => ?_) (eq_run n m g h (firstOf (difO g h) n 0)) ?_ (mem_rows hv hu) rfl
  · rw [addL_same hh]
    exact .need fun hnm => loop_cnt (onlyS_ok noS_ok) follows (by kernel_rfl) (noloops (by kernel_rfl)) (fun i => i ≤ firstOf (difO g h) n 0) (fun i => eq_st n m g h (i : Nat)) (fun i => firstOf (difO g h) n 0 - i) 2 [0, 1, 12, 13] [] [] (firstOf (difO g h) n 0) [] (eq_step n m g h hn hnm) (Nat.zero_le _)
  · unfold maxLen at hn
    unfold sameO
    simp only [Int.toNat_natCast, T.ok, decide_eq_true_eq, decide_eq_false_iff_not, Bool.not_eq_true', Bool.not_eq_false', Bool.and_true]
    refine ⟨fun a => ?_, fun a => ⟨by omega, trivial, rfl, fun b => ⟨⟨by omega, by omega⟩, by omega, ⟨by omega, by omega⟩, by omega, fun c => ?_, fun c => ?_⟩, fun b => ?_⟩⟩
    · have : ¬ n = m := by omega
      simp [this]
    · have : Nat.blt (firstOf (difO g h) n 0) n = true := by rw [Nat.blt_eq]; omega
      simp [this]
    · have := difO_yes (h2 (by omega))
      simp only [Bool.and_eq_true, decide_eq_true_eq] at c
      exact this c
    · have e : Nat.blt (firstOf (difO g h) n 0) n = false := by rw [← Bool.not_eq_true, Nat.blt_eq]; omega
      have : n = m := by omega
      rw [e]; simp [this]
set_option maxRecDepth 100000 in
theorem rs_step (p q : Pk) (n m : Nat) (g h : Nat → Op) (hn : n ≤ maxLen) (hnm : n = m) : ∀ i : Nat, i ≤ firstOf (difO g h) n 0 → i ≠ firstOf (difO g h) n 0 → (roundM Try.prog (onlyS Try.prog noS) noL Try.f14.ntmps 0 (loopAt Try.f14 0) 4 [2, 3, 5] [] [] (rs_st p q n m g h (i : Nat))).ok fun r => r.1 = .normal ∧ ∃ j, j ≤ firstOf (difO g h) n 0 ∧ firstOf (difO g h) n 0 - j < firstOf (difO g h) n 0 - i ∧ r.2 = rs_st p q n m g h (j : Nat) := by
  intro i hi hne
  obtain ⟨he, h1, -⟩ := firstOf_le (difO g h) n
  unfold maxLen at hn
  obtain ⟨d1, d2⟩ := difO_no (h1 i (by omega))
  have hw : IntKind.i64.wrap ((i : Int) + 1) = ((i + 1 : Nat) : Int) := by rw [w64 _ (by omega) (by omega)]; rfl
  have fin : ∃ j, j ≤ firstOf (difO g h) n 0 ∧ firstOf (difO g h) n 0 - j < firstOf (difO g h) n 0 - i ∧ rs_st p q n m g h ((i + 1 : Nat) : Int) = rs_st p q n m g h (j : Nat) := ⟨i + 1, by omega, by omega, rfl⟩
  rw [rs_round]
  simp only [Int.toNat_natCast, hw, T.ok, decide_eq_true_eq, decide_eq_false_iff_not, d1, d2, decide_true, Bool.and_self, Bool.not_true]
  repeat' (first | refine And.intro ?_ ?_ | intro _)
  all_goals first | omega | exact ⟨rfl, fin⟩ | rfl | exact fin | contradiction
set_option maxRecDepth 100000 in
theorem ref10_same (p q : Pk) (n m : Nat) (g h : Nat → Op) (hn : n ≤ maxLen) (v u : Value) (w : World) (hv : ∀ B, BlkSat B w v (.row n 2 fun i j => (g i).c j)) (hu : ∀ B, BlkSat B w u (.row m 2 fun i j => (h i).c j)) : Calls Try.prog 14 #[p.v v, q.v u] w fun e w' => e = .returned (.bool (sameP p n g q m h)) ∧ Below w.heap.size w w' := by
  obtain ⟨he, h1, h2⟩ := firstOf_le (difO g h) n
  refine calls_runO (onlyS_ok noS_ok) follows Try.func14 (by kernel_rfl) (by kernel_rfl) (one_loop (b := loopAt Try.f14 0) (id := 0) (by kernel_rfl) fun st t hh => ?_) (rs_run p q n m g h (firstOf (difO g h) n 0)) ?_ (mem_rows hv hu) rfl
  · rw [addL_same hh]
    exact .need fun hnm => loop_cnt (onlyS_ok noS_ok) follows (by kernel_rfl) (noloops (by kernel_rfl)) (fun i => i ≤ firstOf (difO g h) n 0) (fun i => rs_st p q n m g h (i : Nat)) (fun i => firstOf (difO g h) n 0 - i) 4 [2, 3, 5] [] [] (firstOf (difO g h) n 0) [] (rs_step p q n m g h hn hnm) (Nat.zero_le _)
  · unfold maxLen at hn
    unfold sameP sameO samePk
    simp only [Int.toNat_natCast, T.ok, decide_eq_true_eq, decide_eq_false_iff_not, Bool.not_eq_true', Bool.not_eq_false', Bool.and_true]
    refine ⟨fun a => ?_, fun a => ⟨by omega, trivial, rfl, fun b => ⟨⟨by omega, by omega⟩, by omega, ⟨by omega, by omega⟩, by omega, fun c => ?_, fun c => ?_⟩, fun b => ?_⟩⟩
    · have : ¬ n = m := by omega
      simp [this]
    · have : Nat.blt (firstOf (difO g h) n 0) n = true := by rw [Nat.blt_eq]; omega
      simp [this]
    · have := difO_yes (h2 (by omega))
      simp only [Bool.and_eq_true, decide_eq_true_eq] at c
      exact this c
    · have e : Nat.blt (firstOf (difO g h) n 0) n = false := by rw [← Bool.not_eq_true, Nat.blt_eq]; omega
      have e2 : n = m := by omega
      rw [e]
      repeat' (first | refine And.intro ?_ ?_ | intro _)
      all_goals simp [*]
/-! the program's -/
def FSame0 (P : Program) (fOf : Func) : LTab := addR 53 (fun ss H => match ss with
  | [s, t] => (rowIn 2 H s).bind fun q => (rowIn 2 H t).bind fun q' => some ([q.1 ≤ maxLen ∧ AllOp q.1 q.2 ∧ AllOp q'.1 q'.2], .bool (sameO q.1 (opF q.2) q'.1 (opF q'.2)))
  | _ => none) <| addT 52 (inl P (onlyS P noS) noL fOf) noF
theorem FSame0_ok : LOk Try.prog (FSame0 Try.prog Try.f52) := by
  refine addR_ok (addT_ok noF_ok (by kernel_rfl) (inl_ok (onlyS_ok noS_ok) follows Try.func52 (by kernel_rfl) (by kernel_rfl) (noloops (by kernel_rfl)))) (by kernel_rfl) ?_
  intro ss H p v h bs B w vs hm hv hp
  dsimp only at h
  split at h
  · simp only [Option.bind_eq_some_iff, Option.some.injEq, Prod.mk.injEq] at h
    obtain ⟨⟨n, f⟩, hr, ⟨n', f'⟩, hr', rfl, rfl⟩ := h
    obtain ⟨x0, r0, e0, v0, rfl⟩ := tos_cons hv
    obtain ⟨x1, r1, e1, v1, rfl⟩ := tos_cons v0
    obtain rfl := tos_nil v1
    obtain ⟨h1, h2, h3⟩ := hp _ (List.mem_cons_self ..)
    exact opts_equal n n' (opF f) (opF f') h1 x0 x1 w (op_row (rowIn_ok hm e0 hr) h2) (op_row (rowIn_ok hm e1 hr') h3)
  · cases h
abbrev CSame (P : Program) (fOf : Func) : Cfg := both P noS (FSame0 P fOf) [53, 52]
set_option maxRecDepth 100000 in
theorem ps_run (p q : Pk) (n m : Nat) (f k : Nat → Nat → Value) : runO Try.prog (CSame Try.prog Try.f52) noL Try.f13 [p.s (.ref 0), q.s (.ref 1)] [.row n 2 f, .row m 2 k] = T.ite (decide (p.2 = q.2) && (decide (p.1 = q.1) && (decide (p.3 = q.3) && (decide (p.4 = q.4) && (decide (p.5 = q.5) && (decide (p.6 = q.6) && (decide (p.7 = q.7) && (decide (p.8 = q.8) && (decide (p.9 = q.9) && (decide (p.10 = q.10) && (decide (p.11 = q.11) && (decide (p.12 = q.12) && true)))))))))))) (T.need ((n, f).fst ≤ maxLen ∧ AllOp (n, f).fst (n, f).snd ∧ AllOp (m, k).fst (m, k).snd) (T.leaf (Value.bool (sameO n (opF (n, f).snd) m (opF (m, k).snd))))) (T.leaf (Value.bool false)) := by kernel_rfl
theorem packet_same (p q : Pk) (n m : Nat) (f k : Nat → Nat → Value) (hn : n ≤ maxLen) (hf : AllOp n f) (hk : AllOp m k) (v u : Value) (w : World) (hv : ∀ B, BlkSat B w v (.row n 2 f)) (hu : ∀ B, BlkSat B w u (.row m 2 k)) : Calls Try.prog 13 #[p.v v, q.v u] w fun e w' => e = .returned (.bool (sameP p n (opF f) q m (opF k))) ∧ Below w.heap.size w w' := by
  refine calls_runO (both_ok noS_ok FSame0_ok) follows Try.func13 (by kernel_rfl) (lexAllF_ok (by kernel_rfl)) (noloops (by kernel_rfl)) (ps_run p q n m f k) ?_ (mem_rows hv hu) rfl
  have e : (decide (p.long = q.long) && (decide (p.kind = q.kind) && (decide (p.src = q.src) && (decide (p.dst = q.dst) && (decide (p.ccval = q.ccval) && (decide (p.cover = q.cover) && (decide (p.seq = q.seq) && (decide (p.ack = q.ack) && (decide (p.service = q.service) && (decide (p.code = q.code) && (decide (p.detail = q.detail) && (decide (p.data = q.data) && true)))))))))))) = samePk p q := by
    unfold samePk; simp only [Bool.and_true, Bool.and_assoc]
  refine ⟨fun a => ⟨⟨hn, hf, hk⟩, ?_⟩, fun a => ?_⟩
  · have a := e ▸ a
    show Value.bool _ = Value.bool _
    unfold sameP; rw [a]; rfl
  · have a := e ▸ a
    show Value.bool _ = Value.bool _
    unfold sameP; rw [a]; rfl
end Go.Proofs.Ytikiieclbeiicaa
