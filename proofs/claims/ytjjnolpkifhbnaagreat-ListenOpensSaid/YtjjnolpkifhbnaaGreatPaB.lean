/- Packets that are the same: trees. No conditions. -/
import Derived.Test.YtjjnolpkifhbnaaGreatPaA
namespace Go.Proofs.YtjjnolpkifhbnaaGreat
set_option linter.unusedVariables false
set_option linter.unusedSimpArgs false
open Go.RowKit Sym Go.ChangeShapes Go.WideShapes Go.ChangeMaps Inet

def difO (g h : Nat → Op) (i : Nat) : Bool := !(decide ((g i).kind = (h i).kind) && decide ((g i).val = (h i).val))
def sameO (n : Nat) (g : Nat → Op) (m : Nat) (h : Nat → Op) : Bool := decide (n = m) && !Nat.blt (firstOf (difO g h) n 0) n
def samePk (p q : Pk) : Bool := decide (p.long = q.long) && decide (p.kind = q.kind) && decide (p.src = q.src) && decide (p.dst = q.dst) && decide (p.ccval = q.ccval) && decide (p.cover = q.cover) && decide (p.seq = q.seq) && decide (p.ack = q.ack) && decide (p.service = q.service) && decide (p.code = q.code) && decide (p.detail = q.detail) && decide (p.data = q.data)
def sameP (p : Pk) (n : Nat) (g : Nat → Op) (q : Pk) (m : Nat) (h : Nat → Op) : Bool := samePk p q && sameO n g m h
def eq_st (n m : Nat) (g h : Nat → Op) (i : Int) : St := ⟨[(0, some (.ref 0)), (1, some (.ref 1)), (12, some (.v (.int .i64 n))), (13, some (.v (.int .i64 i)))], [.row n 2 fun i j => (g i).c j, .row m 2 fun i j => (h i).c j]⟩

def Leq (P : Program) (fn : Func) (n m : Nat) (g h : Nat → Op) (e : Nat) : Nat → St → Option (T (Ex × St)) :=
  addL 0 (fun st => .need (n = m) (.need (st.H.length = 2) (.need (st.tidy 2 [0, 1, 12, 13] [] [] = eq_st n m g h (0 : Nat)) ((roundM P (onlyS P noS) noL fn.ntmps 0 (loopAt fn 0) 2 [0, 1, 12, 13] [] [] (closeAt [] (eq_st n m g h (e : Nat)))).bind (lastX 0))))) noL

def rs_st (p q : Pk) (n m : Nat) (g h : Nat → Op) (i : Int) : St := ⟨[(2, some (.ptr 2 0)), (3, some (.ptr 3 0)), (5, some (.v (.int .i64 i)))], [.row n 2 fun i j => (g i).c j, .row m 2 fun i j => (h i).c j,
  .own [.v (.int .i64 p.kind), .v (.bool p.long), .v (.int .i64 p.src), .v (.int .i64 p.dst), .v (.int .i64 p.ccval), .v (.int .i64 p.cover), .v (.int .i64 p.seq), .v (.int .i64 p.ack), .v (.int .i64 p.service), .v (.int .i64 p.code), .v (.int .i64 p.detail), .ref 0, .v (.string p.data)],
  .own [.v (.int .i64 q.kind), .v (.bool q.long), .v (.int .i64 q.src), .v (.int .i64 q.dst), .v (.int .i64 q.ccval), .v (.int .i64 q.cover), .v (.int .i64 q.seq), .v (.int .i64 q.ack), .v (.int .i64 q.service), .v (.int .i64 q.code), .v (.int .i64 q.detail), .ref 1, .v (.string q.data)]]⟩
set_option maxRecDepth 100000 in
theorem rs_round (p q : Pk) (n m : Nat) (g h : Nat → Op) (i : Int) : roundM Tryz.prog (onlyS Tryz.prog noS) noL Tryz.f12.ntmps 0 (loopAt Tryz.f12 0) 4 [2, 3, 5] [] [] (rs_st p q n m g h i) = .ite (decide (i < (↑n : Int))) (.need ((0 : Int) ≤ i ∧ i < (↑n : Int)) (.need (i.toNat < n) (.need ((0 : Int) ≤ i ∧ i < (↑m : Int)) (.need (i.toNat < m) (.ite (!(decide ((g i.toNat).1 = (h i.toNat).1) && (decide ((g i.toNat).2 = (h i.toNat).2) && true))) (.leaf (Ex.ret, St.mk [(4, some SV.ff), (30, some SV.tt), (30, some (.v (.bool !(decide ((g i.toNat).1 = (h i.toNat).1) && (decide ((g i.toNat).2 = (h i.toNat).2) && true))))), (29, some (.v (.agg (Array.mk [.int .i64 (h i.toNat).1, .string (h i.toNat).2])))), (28, some (SV.elt 1 2 i.toNat 0)), (27, some (.v (.int .i64 i))), (26, some (SV.ref 1)), (25, some (.ptr 3 11)), (24, some (.v (.agg (Array.mk [.int .i64 (g i.toNat).1, .string (g i.toNat).2])))), (23, some (SV.elt 0 2 i.toNat 0)), (22, some (.v (.int .i64 i))), (21, some (SV.ref 0)), (20, some (.ptr 2 11)), (17, some SV.tt), (17, some (.v (.bool (decide (i < (↑n : Int)))))), (16, some (.v (.int .i64 (↑n : Int)))), (15, some (SV.ref 0)), (14, some (.ptr 2 11)), (13, some (.v (.int .i64 i))), (2, some (.ptr 2 0)), (3, some (.ptr 3 0)), (5, some (.v (.int .i64 i)))] [Blk.row n 2 fun i j => (g i).c j, Blk.row m 2 fun i j => (h i).c j, .own [.v (.int .i64 p.1), .v (.bool p.2), .v (.int .i64 p.3), .v (.int .i64 p.4), .v (.int .i64 p.5), .v (.int .i64 p.6), .v (.int .i64 p.7), .v (.int .i64 p.8), .v (.int .i64 p.9), .v (.int .i64 p.10), .v (.int .i64 p.11), SV.ref 0, .v (.string p.12)], .own [.v (.int .i64 q.1), .v (.bool q.2), .v (.int .i64 q.3), .v (.int .i64 q.4), .v (.int .i64 q.5), .v (.int .i64 q.6), .v (.int .i64 q.7), .v (.int .i64 q.8), .v (.int .i64 q.9), .v (.int .i64 q.10), .v (.int .i64 q.11), SV.ref 1, .v (.string q.12)]])) (.leaf (Ex.normal, St.mk [(2, some (.ptr 2 0)), (3, some (.ptr 3 0)), (5, some (.v (.int .i64 (IntKind.i64.wrap (i + (1 : Int))))))] [Blk.row n 2 fun i j => (g i).c j, Blk.row m 2 fun i j => (h i).c j, .own [.v (.int .i64 p.1), .v (.bool p.2), .v (.int .i64 p.3), .v (.int .i64 p.4), .v (.int .i64 p.5), .v (.int .i64 p.6), .v (.int .i64 p.7), .v (.int .i64 p.8), .v (.int .i64 p.9), .v (.int .i64 p.10), .v (.int .i64 p.11), SV.ref 0, .v (.string p.12)], .own [.v (.int .i64 q.1), .v (.bool q.2), .v (.int .i64 q.3), .v (.int .i64 q.4), .v (.int .i64 q.5), .v (.int .i64 q.6), .v (.int .i64 q.7), .v (.int .i64 q.8), .v (.int .i64 q.9), .v (.int .i64 q.10), .v (.int .i64 q.11), SV.ref 1, .v (.string q.12)]]))))))) (.leaf (Ex.exit 0, St.mk [(2, some (.ptr 2 0)), (3, some (.ptr 3 0)), (5, some (.v (.int .i64 i)))] [Blk.row n 2 fun i j => (g i).c j, Blk.row m 2 fun i j => (h i).c j, .own [.v (.int .i64 p.1), .v (.bool p.2), .v (.int .i64 p.3), .v (.int .i64 p.4), .v (.int .i64 p.5), .v (.int .i64 p.6), .v (.int .i64 p.7), .v (.int .i64 p.8), .v (.int .i64 p.9), .v (.int .i64 p.10), .v (.int .i64 p.11), SV.ref 0, .v (.string p.12)], .own [.v (.int .i64 q.1), .v (.bool q.2), .v (.int .i64 q.3), .v (.int .i64 q.4), .v (.int .i64 q.5), .v (.int .i64 q.6), .v (.int .i64 q.7), .v (.int .i64 q.8), .v (.int .i64 q.9), .v (.int .i64 q.10), .v (.int .i64 q.11), SV.ref 1, .v (.string q.12)]])) := by kernel_rfl
def Lrs (P : Program) (fn : Func) (p q : Pk) (n m : Nat) (g h : Nat → Op) (e : Nat) : Nat → St → Option (T (Ex × St)) :=
  addL 0 (fun st => .need (n = m) (.need (st.H.length = 4) (.need (st.tidy 4 [2, 3, 5] [] [] = rs_st p q n m g h (0 : Nat)) ((roundM P (onlyS P noS) noL fn.ntmps 0 (loopAt fn 0) 4 [2, 3, 5] [] [] (closeAt [] (rs_st p q n m g h (e : Nat)))).bind (lastX 0))))) noL
set_option maxRecDepth 100000 in
theorem rs_run (p q : Pk) (n m : Nat) (g h : Nat → Op) (e : Nat) : runO Tryz.prog (onlyS Tryz.prog noS) (Lrs Tryz.prog Tryz.f12 p q n m g h e) Tryz.f12 [p.s (.ref 0), q.s (.ref 1)] [.row n 2 fun i j => (g i).c j, .row m 2 fun i j => (h i).c j] = .ite (!decide ((↑n : Int) = (↑m : Int))) (.leaf (Value.bool false)) (.need (n = m) (.need (4 = 4) (.need (St.mk [(2, some (.ptr 2 0)), (3, some (.ptr 3 0)), (5, some (.v (.int .i64 0)))] [Blk.row n 2 fun i j => (g i).c j, Blk.row m 2 fun i j => (h i).c j, .own [.v (.int .i64 p.1), .v (.bool p.2), .v (.int .i64 p.3), .v (.int .i64 p.4), .v (.int .i64 p.5), .v (.int .i64 p.6), .v (.int .i64 p.7), .v (.int .i64 p.8), .v (.int .i64 p.9), .v (.int .i64 p.10), .v (.int .i64 p.11), SV.ref 0, .v (.string p.12)], .own [.v (.int .i64 q.1), .v (.bool q.2), .v (.int .i64 q.3), .v (.int .i64 q.4), .v (.int .i64 q.5), .v (.int .i64 q.6), .v (.int .i64 q.7), .v (.int .i64 q.8), .v (.int .i64 q.9), .v (.int .i64 q.10), .v (.int .i64 q.11), SV.ref 1, .v (.string q.12)]] = rs_st p q n m g h (0 : Int)) (.ite (decide ((↑e : Int) < (↑n : Int))) (.need ((0 : Int) ≤ (↑e : Int) ∧ (↑e : Int) < (↑n : Int)) (.need ((↑e : Int).toNat < n) (.need ((0 : Int) ≤ (↑e : Int) ∧ (↑e : Int) < (↑m : Int)) (.need ((↑e : Int).toNat < m) (.ite (!(decide ((g (↑e : Int).toNat).1 = (h (↑e : Int).toNat).1) && (decide ((g (↑e : Int).toNat).2 = (h (↑e : Int).toNat).2) && true))) (.leaf (Value.bool false)) (T.stuck 39)))))) (.ite (decide (p.1 = q.1)) (.ite (decide (p.2 = q.2)) (.ite (decide (p.3 = q.3)) (.ite (decide (p.4 = q.4)) (.ite (decide (p.5 = q.5)) (.ite (decide (p.6 = q.6)) (.ite (decide (p.7 = q.7)) (.ite (decide (p.8 = q.8)) (.ite (decide (p.9 = q.9)) (.ite (decide (p.10 = q.10)) (.ite (decide (p.11 = q.11)) (.leaf (Value.bool (decide (p.12 = q.12)))) (.leaf (Value.bool false))) (.leaf (Value.bool false))) (.leaf (Value.bool false))) (.leaf (Value.bool false))) (.leaf (Value.bool false))) (.leaf (Value.bool false))) (.leaf (Value.bool false))) (.leaf (Value.bool false))) (.leaf (Value.bool false))) (.leaf (Value.bool false))) (.leaf (Value.bool false))))))) := by kernel_rfl
end Go.Proofs.YtjjnolpkifhbnaaGreat
namespace Go.Proofs.YtjjnolpkifhbnaaGreat
set_option linter.unusedVariables false
set_option linter.unusedSimpArgs false
open Go.RowKit Sym Go.ChangeShapes Go.WideShapes Go.ChangeMaps Inet

theorem difO_no {g h : Nat → Op} {i : Nat} (e : difO g h i = false) : (g i).kind = (h i).kind ∧ (g i).val = (h i).val := by
  unfold difO at e
  simpa using e
theorem difO_yes {g h : Nat → Op} {i : Nat} (e : difO g h i = true) : ¬ ((g i).kind = (h i).kind ∧ (g i).val = (h i).val) := by
  unfold difO at e
  simp at e
  rintro ⟨a, b⟩
  rcases e with e | e
  · exact e a
  · exact e b
set_option maxRecDepth 100000 in
theorem rs_step (p q : Pk) (n m : Nat) (g h : Nat → Op) (hn : n ≤ maxLen) (hnm : n = m) : ∀ i : Nat, i ≤ firstOf (difO g h) n 0 → i ≠ firstOf (difO g h) n 0 → (roundM Tryz.prog (onlyS Tryz.prog noS) noL Tryz.f12.ntmps 0 (loopAt Tryz.f12 0) 4 [2, 3, 5] [] [] (rs_st p q n m g h (i : Nat))).ok fun r => r.1 = .normal ∧ ∃ j, j ≤ firstOf (difO g h) n 0 ∧ firstOf (difO g h) n 0 - j < firstOf (difO g h) n 0 - i ∧ r.2 = rs_st p q n m g h (j : Nat) := by
  intro i hi hne
  obtain ⟨he, h1, -⟩ := firstOf_le (difO g h) n
  unfold maxLen at hn
  obtain ⟨d1, d2⟩ := difO_no (h1 i (by omega))
  have hw : IntKind.i64.wrap ((i : Int) + 1) = ((i + 1 : Nat) : Int) := by rw [w64 _ (by omega) (by omega)]; rfl
  have fin : ∃ j, j ≤ firstOf (difO g h) n 0 ∧ firstOf (difO g h) n 0 - j < firstOf (difO g h) n 0 - i ∧ rs_st p q n m g h ((i + 1 : Nat) : Int) = rs_st p q n m g h (j : Nat) := ⟨i + 1, by omega, by omega, rfl⟩
  rw [rs_round]
  simp only [Int.toNat_natCast, hw, T.ok, decide_eq_true_eq, decide_eq_false_iff_not, d1, d2, decide_true, Bool.and_self, Bool.not_true]
  repeat' (first | refine And.intro ?_ ?_ | intro _)
  all_goals first | omega | exact ⟨rfl, fin⟩ | rfl | exact fin | contradiction
set_option maxRecDepth 100000 in
theorem ref10_same (p q : Pk) (n m : Nat) (g h : Nat → Op) (hn : n ≤ maxLen) (v u : Value) (w : World) (hv : ∀ B, BlkSat B w v (.row n 2 fun i j => (g i).c j)) (hu : ∀ B, BlkSat B w u (.row m 2 fun i j => (h i).c j)) : Calls Tryz.prog 12 #[p.v v, q.v u] w fun e w' => e = .returned (.bool (sameP p n g q m h)) ∧ Below w.heap.size w w' := by
  obtain ⟨he, h1, h2⟩ := firstOf_le (difO g h) n
  refine calls_runO (onlyS_ok noS_ok) follows Tryz.func12 (by kernel_rfl) (by kernel_rfl) (one_loop (b := loopAt Tryz.f12 0) (id := 0) (by kernel_rfl) fun st t hh => ?_) (rs_run p q n m g h (firstOf (difO g h) n 0)) ?_ (mem_rows hv hu) rfl
  · rw [addL_same hh]
    exact .need fun hnm => loop_cnt (onlyS_ok noS_ok) follows (by kernel_rfl) (noloops (by kernel_rfl)) (fun i => i ≤ firstOf (difO g h) n 0) (fun i => rs_st p q n m g h (i : Nat)) (fun i => firstOf (difO g h) n 0 - i) 4 [2, 3, 5] [] [] (firstOf (difO g h) n 0) [] (rs_step p q n m g h hn hnm) (Nat.zero_le _)
  · unfold maxLen at hn
    unfold sameP sameO samePk
    simp only [Int.toNat_natCast, T.ok, decide_eq_true_eq, decide_eq_false_iff_not, Bool.not_eq_true', Bool.not_eq_false', Bool.and_true]
    refine ⟨fun a => ?_, fun a => ⟨by omega, trivial, rfl, fun b => ⟨⟨by omega, by omega⟩, by omega, ⟨by omega, by omega⟩, by omega, fun c => ?_, fun c => ?_⟩, fun b => ?_⟩⟩
    · have : ¬ n = m := by omega
      simp [this]
    · have : Nat.blt (firstOf (difO g h) n 0) n = true := by rw [Nat.blt_eq]; omega
      simp [this]
    · have := difO_yes (h2 (by omega))
      simp only [Bool.and_eq_true, decide_eq_true_eq] at c
      exact this c
    · have e : Nat.blt (firstOf (difO g h) n 0) n = false := by rw [← Bool.not_eq_true, Nat.blt_eq]; omega
      have e2 : n = m := by omega
      rw [e]
      repeat' (first | refine And.intro ?_ ?_ | intro _)
      all_goals simp [*]
/-! the program's -/
end Go.Proofs.YtjjnolpkifhbnaaGreat
