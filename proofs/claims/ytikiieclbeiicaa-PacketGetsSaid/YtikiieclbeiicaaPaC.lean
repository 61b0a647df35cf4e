/- Packets: sums; the fields: trees. No conditions. -/
import Derived.Test.YtikiieclbeiicaaPaB
import Derived.Test.YtikiieclbeiicaaPaA
import Derived.Test.YtikiieclbeiicaaInC
import Derived.Test.YtikiieclbeiicaaOpC
import Derived.Test.YtikiieclbeiicaaOpB
namespace Go.Proofs.Ytikiieclbeiicaa
set_option linter.unusedVariables false
set_option linter.unusedSimpArgs false
open Go.RowKit Sym Go.ChangeShapes Go.WideShapes Go.ChangeMaps Inet

def psF (f : Nat → Nat → Value) (i : Nat) : ByteArray := strV (f i 0)
def StrP (m : Nat) (f : Nat → Nat → Value) : Prop := (∀ i, i < m → f i 0 = .string (psF f i)) ∧ FewS m (psF f)
def tPseu : List Value → Option (List Prop × Value) | [.int .i64 f, .int .i64 t, .int .i64 z] => some ([], .string (pseuB f t z)) | _ => none
def SPk1 : Tab := addS 94 tPseu <| addS 96 tPseu SPk0
theorem SPk1_ok : TabOk Try.prog SPk1 := by
  refine addS_ok (addS_ok SPk0_ok (by kernel_rfl) ?_) (by kernel_rfl) ?_
  · (intro xs p v h hp w; unfold tPseu at h; (split at h) <;> first | (cases h; done) | (simp only [Option.some.injEq, Prod.mk.injEq] at h; obtain ⟨rfl, rfl⟩ := h; exact ref04_Pseudo _ _ _ w))
  · (intro xs p v h hp w; unfold tPseu at h; (split at h) <;> first | (cases h; done) | (simp only [Option.some.injEq, Prod.mk.injEq] at h; obtain ⟨rfl, rfl⟩ := h; exact inet_Pseudo _ _ _ w))
theorem str_row {w : World} {v : Value} {n : Nat} {f : Nat → Nat → Value} (h : ∀ B, BlkSat B w v (.row n 1 f)) (ho : ∀ i, i < n → f i 0 = .string (psF f i)) : ∀ B, BlkSat B w v (.row n 1 fun i _ => .string (psF f i)) := fun B => row_congr (h B) fun i j hi hj => by
  obtain rfl : j = 0 := by omega
  exact ho i hi
def FSum : LTab := addR 93 (rd1 1 StrP fun m f => .int .i64 (sumR m (psF f))) <| addR 95 (rd1 1 StrP fun m f => .int .i64 (sumR m (psF f))) noF
theorem FSum_ok : LOk Try.prog FSum := addR_ok (addR_ok noF_ok (by kernel_rfl) (rd1_ok fun n f v w hv hp => ref04_Sum n (psF f) hp.2 v w (str_row hv hp.1)))
  (by kernel_rfl) (rd1_ok fun n f v w hv hp => inet_Sum n (psF f) hp.2 v w (str_row hv hp.1))
abbrev CPs (P : Program) : Cfg := both P SPk1 FSum [93, 95]
theorem CPs_ok : CfgOk Try.prog (CPs Try.prog) := both_ok SPk1_ok FSum_ok
set_option maxRecDepth 100000 in
theorem psum_run (a d : ByteArray) (c f t : Int) : runO Try.prog (CPs Try.prog) noL Try.f37 [.v (.string a), .v (.string d), .v (.int .i64 c), .v (.agg #[.int .i64 f, .int .i64 t])] [] = T.need (a.size ≤ (1000000 : Nat) ∧ d.size ≤ (1000000 : Nat))
  (T.need
    (StrP (2 : Nat) fun i j =>
      cellAt
        (Array.foldl
            (fun cs x =>
              match x with
              | (c, j) => cs.setIfInBounds ((1 : Nat) + j) c)
            (Array.foldl
              (fun cs x =>
                match x with
                | (c, j) => cs.setIfInBounds ((0 : Nat) + j) c)
              (Array.map (fun x => (Value.string (ByteArray.mk #[])).cells[x % (1 : Nat)]!) (Array.range (2 : Nat))) (Value.string (pseuB f t (IntKind.i64.wrap ((↑a.size : Int) + (↑d.size : Int))))).cells.zipIdx)
            #[Value.string (covB a d c), Value.bool (covOk d c)][(0 : Nat)].cells.zipIdx).toList
        (i * (1 : Nat) + j))
    (T.leaf
      (Value.tuple
        (Array.mk
          [Value.int IntKind.i64
              (sumR (2 : Nat)
                (psF fun i j =>
                  cellAt
                    (Array.foldl
                        (fun cs x =>
                          match x with
                          | (c, j) => cs.setIfInBounds ((fun x => x.fst) ((1 : Nat), Operand.tmp (29 : Nat)) * Try.prog.types[(9 : Nat)].size + j) c)
                        (Array.foldl
                          (fun cs x =>
                            match x with
                            | (c, j) => cs.setIfInBounds ((fun x => x.fst) ((0 : Nat), Operand.tmp (28 : Nat)) * Try.prog.types[(9 : Nat)].size + j) c)
                          (Array.map (fun x => (Value.string (ByteArray.mk #[])).cells[x % (Value.string (ByteArray.mk #[])).cells.size]!) (Array.range ((2 : Nat) * Try.prog.types[(9 : Nat)].size))) (Value.string (pseuB f t (IntKind.i64.wrap ((↑a.size : Int) + (↑d.size : Int))))).cells.zipIdx)
                        #[Value.string (covB a d c), Value.bool (covOk d c)][(0 : Nat)].cells.zipIdx).toList
                    (i * (1 : Nat) + j))),
            Value.bool (covOk d c)])))) := by kernel_rfl
set_option maxRecDepth 100000 in
theorem rsum_run (a d : ByteArray) (c f t : Int) : runO Try.prog (CPs Try.prog) noL Try.f38 [.v (.string a), .v (.string d), .v (.int .i64 c), .v (.agg #[.int .i64 f, .int .i64 t])] [] = T.need (a.size ≤ (1000000 : Nat) ∧ d.size ≤ (1000000 : Nat))
  (T.need
    (StrP (2 : Nat) fun i j =>
      cellAt
        (Array.foldl
            (fun cs x =>
              match x with
              | (c, j) => cs.setIfInBounds ((1 : Nat) + j) c)
            (Array.foldl
              (fun cs x =>
                match x with
                | (c, j) => cs.setIfInBounds ((0 : Nat) + j) c)
              (Array.map (fun x => (Value.string (ByteArray.mk #[])).cells[x % (1 : Nat)]!) (Array.range (2 : Nat))) (Value.string (pseuB f t (IntKind.i64.wrap ((↑a.size : Int) + (↑d.size : Int))))).cells.zipIdx)
            #[Value.string (covB a d c), Value.bool (covOk d c)][(0 : Nat)].cells.zipIdx).toList
        (i * (1 : Nat) + j))
    (T.leaf
      (Value.tuple
        (Array.mk
          [Value.int IntKind.i64
              (sumR (2 : Nat)
                (psF fun i j =>
                  cellAt
                    (Array.foldl
                        (fun cs x =>
                          match x with
                          | (c, j) => cs.setIfInBounds ((fun x => x.fst) ((1 : Nat), Operand.tmp (29 : Nat)) * Try.prog.types[(9 : Nat)].size + j) c)
                        (Array.foldl
                          (fun cs x =>
                            match x with
                            | (c, j) => cs.setIfInBounds ((fun x => x.fst) ((0 : Nat), Operand.tmp (28 : Nat)) * Try.prog.types[(9 : Nat)].size + j) c)
                          (Array.map (fun x => (Value.string (ByteArray.mk #[])).cells[x % (Value.string (ByteArray.mk #[])).cells.size]!) (Array.range ((2 : Nat) * Try.prog.types[(9 : Nat)].size))) (Value.string (pseuB f t (IntKind.i64.wrap ((↑a.size : Int) + (↑d.size : Int))))).cells.zipIdx)
                        #[Value.string (covB a d c), Value.bool (covOk d c)][(0 : Nat)].cells.zipIdx).toList
                    (i * (1 : Nat) + j))),
            Value.bool (covOk d c)])))) := by kernel_rfl
abbrev CPf (P : Program) : Cfg := both P SPk1 FPk1 fsPk1
theorem CPf_ok : CfgOk Try.prog (CPf Try.prog) := both_ok SPk1_ok FPk1_ok
set_option maxRecDepth 100000 in
theorem pfields_run (p : Pk) (n : Nat) (f : Nat → Nat → Value) : runO Try.prog (CPf Try.prog) noL Try.f36 [p.s (.ref 0)] [.row n 2 f] = T.ite (Head.acks p.1) (T.ite p.2 (T.need ((0 : Int) ≤ (2 : Int) ∧ (2 : Int) ≤ (8 : Int) ∧ (ByteArray.mk #[]).size ≤ (1099511627776 : Nat)) (T.need ((0 : Int) ≤ (6 : Int) ∧ (6 : Int) ≤ (8 : Int) ∧ (Oct.put (ByteArray.mk #[]) (0 : Int) (2 : Int)).size ≤ (1099511627776 : Nat)) (T.ite (served p.1) (T.need ((0 : Int) ≤ (4 : Int) ∧ (4 : Int) ≤ (8 : Int) ∧ (Oct.put (Oct.put (ByteArray.mk #[]) (0 : Int) (2 : Int)) p.ack (6 : Int)).size ≤ (1099511627776 : Nat)) (T.ite (decide (p.1 = (7 : Int))) (T.need ((0 : Int) ≤ (1 : Int) ∧ (1 : Int) ≤ (8 : Int) ∧ (Oct.put (Oct.put (Oct.put (ByteArray.mk #[]) (0 : Int) (2 : Int)) p.ack (6 : Int)) p.service (4 : Int)).size ≤ (1099511627776 : Nat)) (T.need ((0 : Int) ≤ (3 : Int) ∧ (3 : Int) ≤ (8 : Int) ∧ (Oct.put (Oct.put (Oct.put (Oct.put (ByteArray.mk #[]) (0 : Int) (2 : Int)) p.ack (6 : Int)) p.service (4 : Int)) p.code (1 : Int)).size ≤ (1099511627776 : Nat)) (T.leaf (Value.string (Oct.put (Oct.put (Oct.put (Oct.put (ByteArray.mk (Array.mk ((Array.mk []).toList ++ Oct.be (0 : Nat) (2 : Nat)))) p.8 (6 : Int)) p.9 (4 : Int)) p.10 (1 : Int)) p.11 (3 : Int)))))) (T.leaf (Value.string (Oct.put (Oct.put (ByteArray.mk (Array.mk ((Array.mk []).toList ++ Oct.be (0 : Nat) (2 : Nat)))) p.8 (6 : Int)) p.9 (4 : Int)))))) (T.ite (decide (p.1 = (7 : Int))) (T.need ((0 : Int) ≤ (1 : Int) ∧ (1 : Int) ≤ (8 : Int) ∧ (Oct.put (Oct.put (ByteArray.mk #[]) (0 : Int) (2 : Int)) p.ack (6 : Int)).size ≤ (1099511627776 : Nat)) (T.need ((0 : Int) ≤ (3 : Int) ∧ (3 : Int) ≤ (8 : Int) ∧ (Oct.put (Oct.put (Oct.put (ByteArray.mk #[]) (0 : Int) (2 : Int)) p.ack (6 : Int)) p.code (1 : Int)).size ≤ (1099511627776 : Nat)) (T.leaf (Value.string (Oct.put (Oct.put (Oct.put (ByteArray.mk (Array.mk ((Array.mk []).toList ++ Oct.be (0 : Nat) (2 : Nat)))) p.8 (6 : Int)) p.10 (1 : Int)) p.11 (3 : Int)))))) (T.leaf (Value.string (Oct.put (ByteArray.mk (Array.mk ((Array.mk []).toList ++ Oct.be (0 : Nat) (2 : Nat)))) p.8 (6 : Int)))))))) (T.ite (Head.acks p.1) (T.need ((0 : Int) ≤ (1 : Int) ∧ (1 : Int) ≤ (8 : Int) ∧ (ByteArray.mk #[]).size ≤ (1099511627776 : Nat)) (T.need ((0 : Int) ≤ (3 : Int) ∧ (3 : Int) ≤ (8 : Int) ∧ (Oct.put (ByteArray.mk #[]) (0 : Int) (1 : Int)).size ≤ (1099511627776 : Nat)) (T.ite (served p.1) (T.need ((0 : Int) ≤ (4 : Int) ∧ (4 : Int) ≤ (8 : Int) ∧ (Oct.put (Oct.put (ByteArray.mk #[]) (0 : Int) (1 : Int)) p.ack (3 : Int)).size ≤ (1099511627776 : Nat)) (T.ite (decide (p.1 = (7 : Int))) (T.need ((0 : Int) ≤ (1 : Int) ∧ (1 : Int) ≤ (8 : Int) ∧ (Oct.put (Oct.put (Oct.put (ByteArray.mk #[]) (0 : Int) (1 : Int)) p.ack (3 : Int)) p.service (4 : Int)).size ≤ (1099511627776 : Nat)) (T.need ((0 : Int) ≤ (3 : Int) ∧ (3 : Int) ≤ (8 : Int) ∧ (Oct.put (Oct.put (Oct.put (Oct.put (ByteArray.mk #[]) (0 : Int) (1 : Int)) p.ack (3 : Int)) p.service (4 : Int)) p.code (1 : Int)).size ≤ (1099511627776 : Nat)) (T.leaf (Value.string (Oct.put (Oct.put (Oct.put (Oct.put (ByteArray.mk (Array.mk ((Array.mk []).toList ++ Oct.be (0 : Nat) (1 : Nat)))) p.8 (3 : Int)) p.9 (4 : Int)) p.10 (1 : Int)) p.11 (3 : Int)))))) (T.leaf (Value.string (Oct.put (Oct.put (ByteArray.mk (Array.mk ((Array.mk []).toList ++ Oct.be (0 : Nat) (1 : Nat)))) p.8 (3 : Int)) p.9 (4 : Int)))))) (T.ite (decide (p.1 = (7 : Int))) (T.need ((0 : Int) ≤ (1 : Int) ∧ (1 : Int) ≤ (8 : Int) ∧ (Oct.put (Oct.put (ByteArray.mk #[]) (0 : Int) (1 : Int)) p.ack (3 : Int)).size ≤ (1099511627776 : Nat)) (T.need ((0 : Int) ≤ (3 : Int) ∧ (3 : Int) ≤ (8 : Int) ∧ (Oct.put (Oct.put (Oct.put (ByteArray.mk #[]) (0 : Int) (1 : Int)) p.ack (3 : Int)) p.code (1 : Int)).size ≤ (1099511627776 : Nat)) (T.leaf (Value.string (Oct.put (Oct.put (Oct.put (ByteArray.mk (Array.mk ((Array.mk []).toList ++ Oct.be (0 : Nat) (1 : Nat)))) p.8 (3 : Int)) p.10 (1 : Int)) p.11 (3 : Int)))))) (T.leaf (Value.string (Oct.put (ByteArray.mk (Array.mk ((Array.mk []).toList ++ Oct.be (0 : Nat) (1 : Nat)))) p.8 (3 : Int)))))))) (T.ite (served p.1) (T.need ((0 : Int) ≤ (4 : Int) ∧ (4 : Int) ≤ (8 : Int) ∧ (ByteArray.mk #[]).size ≤ (1099511627776 : Nat)) (T.ite (decide (p.1 = (7 : Int))) (T.need ((0 : Int) ≤ (1 : Int) ∧ (1 : Int) ≤ (8 : Int) ∧ (Oct.put (ByteArray.mk #[]) p.service (4 : Int)).size ≤ (1099511627776 : Nat)) (T.need ((0 : Int) ≤ (3 : Int) ∧ (3 : Int) ≤ (8 : Int) ∧ (Oct.put (Oct.put (ByteArray.mk #[]) p.service (4 : Int)) p.code (1 : Int)).size ≤ (1099511627776 : Nat)) (T.leaf (Value.string (Oct.put (Oct.put (Oct.put (ByteArray.mk (Array.mk [])) p.9 (4 : Int)) p.10 (1 : Int)) p.11 (3 : Int)))))) (T.leaf (Value.string (Oct.put (ByteArray.mk (Array.mk [])) p.9 (4 : Int)))))) (T.ite (decide (p.1 = (7 : Int))) (T.need ((0 : Int) ≤ (1 : Int) ∧ (1 : Int) ≤ (8 : Int) ∧ (ByteArray.mk #[]).size ≤ (1099511627776 : Nat)) (T.need ((0 : Int) ≤ (3 : Int) ∧ (3 : Int) ≤ (8 : Int) ∧ (Oct.put (ByteArray.mk #[]) p.code (1 : Int)).size ≤ (1099511627776 : Nat)) (T.leaf (Value.string (Oct.put (Oct.put (ByteArray.mk (Array.mk [])) p.10 (1 : Int)) p.11 (3 : Int)))))) (T.leaf (Value.string (ByteArray.mk (Array.mk [])))))))) (T.ite (Head.acks p.1) (T.need ((0 : Int) ≤ (1 : Int) ∧ (1 : Int) ≤ (8 : Int) ∧ (ByteArray.mk #[]).size ≤ (1099511627776 : Nat)) (T.need ((0 : Int) ≤ (3 : Int) ∧ (3 : Int) ≤ (8 : Int) ∧ (Oct.put (ByteArray.mk #[]) (0 : Int) (1 : Int)).size ≤ (1099511627776 : Nat)) (T.ite (served p.1) (T.need ((0 : Int) ≤ (4 : Int) ∧ (4 : Int) ≤ (8 : Int) ∧ (Oct.put (Oct.put (ByteArray.mk #[]) (0 : Int) (1 : Int)) p.ack (3 : Int)).size ≤ (1099511627776 : Nat)) (T.ite (decide (p.1 = (7 : Int))) (T.need ((0 : Int) ≤ (1 : Int) ∧ (1 : Int) ≤ (8 : Int) ∧ (Oct.put (Oct.put (Oct.put (ByteArray.mk #[]) (0 : Int) (1 : Int)) p.ack (3 : Int)) p.service (4 : Int)).size ≤ (1099511627776 : Nat)) (T.need ((0 : Int) ≤ (3 : Int) ∧ (3 : Int) ≤ (8 : Int) ∧ (Oct.put (Oct.put (Oct.put (Oct.put (ByteArray.mk #[]) (0 : Int) (1 : Int)) p.ack (3 : Int)) p.service (4 : Int)) p.code (1 : Int)).size ≤ (1099511627776 : Nat)) (T.leaf (Value.string (Oct.put (Oct.put (Oct.put (Oct.put (ByteArray.mk (Array.mk ((Array.mk []).toList ++ Oct.be (0 : Nat) (1 : Nat)))) p.8 (3 : Int)) p.9 (4 : Int)) p.10 (1 : Int)) p.11 (3 : Int)))))) (T.leaf (Value.string (Oct.put (Oct.put (ByteArray.mk (Array.mk ((Array.mk []).toList ++ Oct.be (0 : Nat) (1 : Nat)))) p.8 (3 : Int)) p.9 (4 : Int)))))) (T.ite (decide (p.1 = (7 : Int))) (T.need ((0 : Int) ≤ (1 : Int) ∧ (1 : Int) ≤ (8 : Int) ∧ (Oct.put (Oct.put (ByteArray.mk #[]) (0 : Int) (1 : Int)) p.ack (3 : Int)).size ≤ (1099511627776 : Nat)) (T.need ((0 : Int) ≤ (3 : Int) ∧ (3 : Int) ≤ (8 : Int) ∧ (Oct.put (Oct.put (Oct.put (ByteArray.mk #[]) (0 : Int) (1 : Int)) p.ack (3 : Int)) p.code (1 : Int)).size ≤ (1099511627776 : Nat)) (T.leaf (Value.string (Oct.put (Oct.put (Oct.put (ByteArray.mk (Array.mk ((Array.mk []).toList ++ Oct.be (0 : Nat) (1 : Nat)))) p.8 (3 : Int)) p.10 (1 : Int)) p.11 (3 : Int)))))) (T.leaf (Value.string (Oct.put (ByteArray.mk (Array.mk ((Array.mk []).toList ++ Oct.be (0 : Nat) (1 : Nat)))) p.8 (3 : Int)))))))) (T.ite (served p.1) (T.need ((0 : Int) ≤ (4 : Int) ∧ (4 : Int) ≤ (8 : Int) ∧ (ByteArray.mk #[]).size ≤ (1099511627776 : Nat)) (T.ite (decide (p.1 = (7 : Int))) (T.need ((0 : Int) ≤ (1 : Int) ∧ (1 : Int) ≤ (8 : Int) ∧ (Oct.put (ByteArray.mk #[]) p.service (4 : Int)).size ≤ (1099511627776 : Nat)) (T.need ((0 : Int) ≤ (3 : Int) ∧ (3 : Int) ≤ (8 : Int) ∧ (Oct.put (Oct.put (ByteArray.mk #[]) p.service (4 : Int)) p.code (1 : Int)).size ≤ (1099511627776 : Nat)) (T.leaf (Value.string (Oct.put (Oct.put (Oct.put (ByteArray.mk (Array.mk [])) p.9 (4 : Int)) p.10 (1 : Int)) p.11 (3 : Int)))))) (T.leaf (Value.string (Oct.put (ByteArray.mk (Array.mk [])) p.9 (4 : Int)))))) (T.ite (decide (p.1 = (7 : Int))) (T.need ((0 : Int) ≤ (1 : Int) ∧ (1 : Int) ≤ (8 : Int) ∧ (ByteArray.mk #[]).size ≤ (1099511627776 : Nat)) (T.need ((0 : Int) ≤ (3 : Int) ∧ (3 : Int) ≤ (8 : Int) ∧ (Oct.put (ByteArray.mk #[]) p.code (1 : Int)).size ≤ (1099511627776 : Nat)) (T.leaf (Value.string (Oct.put (Oct.put (ByteArray.mk (Array.mk [])) p.10 (1 : Int)) p.11 (3 : Int)))))) (T.leaf (Value.string (ByteArray.mk (Array.mk []))))))) := by kernel_rfl
end Go.Proofs.Ytikiieclbeiicaa
namespace Go.Proofs.Ytikiieclbeiicaa
set_option linter.unusedVariables false
set_option linter.unusedSimpArgs false
open Go.RowKit Sym Go.ChangeShapes Go.WideShapes Go.ChangeMaps Inet

theorem t_need {α : Type} {p : Prop} {t : T α} {Q : α → Prop} (h : p) (ht : t.ok Q) : (T.need p t).ok Q := ⟨h, ht⟩
theorem t_ite {α : Type} {b : Bool} {t e : T α} {Q : α → Prop} (h : b = true → t.ok Q) (he : b = false → e.ok Q) : (T.ite b t e).ok Q := ⟨h, he⟩
theorem t_leaf {α : Type} {a : α} {Q : α → Prop} (h : Q a) : (T.leaf a).ok Q := h
theorem mem_none (w : World) : Mem w [] [] [] w :=
  ⟨⟨rfl, fun k x u h => by simp at h, fun k j b ⟨x, u, h, _⟩ => by simp at h, fun k j b ⟨x, u, h, _⟩ => by simp at h⟩, .refl _ _, fun k b ⟨x, u, h, _⟩ => by simp at h⟩
/-- the sum of two texts -/
def sumXY (x y : ByteArray) : Int := 65535 - foldN ((tot16 x.data.toList + tot16 y.data.toList : Nat) : Int)
theorem sum_two (F : Nat → Nat → Value) (x y : ByteArray) (h0 : F 0 0 = .string x) (h1 : F 1 0 = .string y) : sumR 2 (psF F) = sumXY x y := by
  have e0 : psF F 0 = x := by unfold psF; rw [h0]; rfl
  have e1 : psF F 1 = y := by unfold psF; rw [h1]; rfl
  unfold sumR sumXY
  simp only [totR, e0, e1, Nat.zero_add]
theorem strP_two (F : Nat → Nat → Value) (x y : ByteArray) (h0 : F 0 0 = .string x) (h1 : F 1 0 = .string y) (hx : x.size ≤ 10000) (hy : y.size ≤ 10000) : StrP 2 F := by
  have e0 : psF F 0 = x := by unfold psF; rw [h0]; rfl
  have e1 : psF F 1 = y := by unfold psF; rw [h1]; rfl
  refine ⟨fun i hi => ?_, by decide, fun i hi => ?_⟩
  · match i, hi with
    | 0, _ => rw [h0, e0]
    | 1, _ => rw [h1, e1]
  · match i, hi with
    | 0, _ => rw [e0]; exact hx
    | 1, _ => rw [e1]; exact hy
theorem covB_size (h d : ByteArray) (c : Int) : (covB h d c).size ≤ h.size + d.size := by
  unfold covB
  split
  · split
    · rw [ByteArray.size_append]; omega
    · rw [ByteArray.size_append, ByteArray.size_extract]; omega
  · exact Nat.zero_le _
def sumP (a d : ByteArray) (c f t : Int) : Int := sumXY (pseuB f t ((a.size : Int) + d.size)) (covB a d c)
def tSumP : List Value → Option (List Prop × Value) | [.string a, .string d, .int .i64 c, .agg ⟨[.int .i64 f, .int .i64 t]⟩] => some ([a.size ≤ 5000 ∧ d.size ≤ 5000], .tuple #[.int .i64 (sumP a d c f t), .bool (covOk d c)]) | _ => none
theorem sum_leaf {F : Nat → Nat → Value} {x y : ByteArray} {b : Bool} (h0 : F 0 0 = .string x) (h1 : F 1 0 = .string y) : Value.tuple (Array.mk [Value.int .i64 (sumR 2 (psF F)), Value.bool b]) = Value.tuple #[.int .i64 (sumXY x y), .bool b] := by rw [sum_two F x y h0 h1]
set_option maxRecDepth 100000 in
theorem packet_sum (a d : ByteArray) (c f t : Int) (h : a.size ≤ 5000 ∧ d.size ≤ 5000) (w : World) : Calls Try.prog 37 #[.string a, .string d, .int .i64 c, .agg #[.int .i64 f, .int .i64 t]] w fun e w' => e = .returned (.tuple #[.int .i64 (sumP a d c f t), .bool (covOk d c)]) ∧ Below w.heap.size w w' := by
  obtain ⟨h1, h2⟩ := h
  have hc := covB_size a d c
  have hw : IntKind.i64.wrap ((a.size : Int) + d.size) = (a.size : Int) + d.size := w64 _ (by omega) (by omega)
  have hp := pseuB_size f t ((a.size : Int) + d.size)
  refine calls_runO CPs_ok follows Try.func37 (by kernel_rfl) (by kernel_rfl) (noloops (by kernel_rfl)) (psum_run a d c f t) ?_ (mem_none w) rfl
  unfold sumP
  rw [hw]
  exact ⟨⟨by omega, by omega⟩, strP_two _ (pseuB f t ((a.size : Int) + d.size)) (covB a d c) (by kernel_rfl) (by kernel_rfl) (by rw [hp]; omega) (by omega), sum_leaf (by kernel_rfl) (by kernel_rfl)⟩
set_option maxRecDepth 100000 in
theorem ref10_sum (a d : ByteArray) (c f t : Int) (h : a.size ≤ 5000 ∧ d.size ≤ 5000) (w : World) : Calls Try.prog 38 #[.string a, .string d, .int .i64 c, .agg #[.int .i64 f, .int .i64 t]] w fun e w' => e = .returned (.tuple #[.int .i64 (sumP a d c f t), .bool (covOk d c)]) ∧ Below w.heap.size w w' := by
  obtain ⟨h1, h2⟩ := h
  have hc := covB_size a d c
  have hw : IntKind.i64.wrap ((a.size : Int) + d.size) = (a.size : Int) + d.size := w64 _ (by omega) (by omega)
  have hp := pseuB_size f t ((a.size : Int) + d.size)
  refine calls_runO CPs_ok follows Try.func38 (by kernel_rfl) (by kernel_rfl) (noloops (by kernel_rfl)) (rsum_run a d c f t) ?_ (mem_none w) rfl
  unfold sumP
  rw [hw]
  exact ⟨⟨by omega, by omega⟩, strP_two _ (pseuB f t ((a.size : Int) + d.size)) (covB a d c) (by kernel_rfl) (by kernel_rfl) (by rw [hp]; omega) (by omega), sum_leaf (by kernel_rfl) (by kernel_rfl)⟩
/-! the fields -/
def fieldsA (p : Pk) : ByteArray := if Head.acks p.kind = true then (if p.long = true then Oct.put (Oct.put ⟨⟨[]⟩⟩ 0 2) p.ack 6 else Oct.put (Oct.put ⟨⟨[]⟩⟩ 0 1) p.ack 3) else ⟨⟨[]⟩⟩
def fieldsS (p : Pk) : ByteArray := if served p.kind = true then Oct.put (fieldsA p) p.service 4 else fieldsA p
def fieldsB (p : Pk) : ByteArray := if p.kind = 7 then Oct.put (Oct.put (fieldsS p) p.code 1) p.detail 3 else fieldsS p
theorem fieldsA_size (p : Pk) : (fieldsA p).size ≤ 8 := by
  unfold fieldsA
  split
  · split <;> (rw [Oct.put_size, Oct.put_size]; decide)
  · decide
theorem fieldsS_size (p : Pk) : (fieldsS p).size ≤ 12 := by
  have := fieldsA_size p
  unfold fieldsS
  split
  · rw [Oct.put_size]; omega
  · omega
theorem fieldsB_size (p : Pk) : (fieldsB p).size ≤ 16 := by
  have := fieldsS_size p
  unfold fieldsB
  split
  · rw [Oct.put_size, Oct.put_size]; omega
  · omega
set_option maxRecDepth 100000 in
theorem packet_fields (p : Pk) (n : Nat) (f : Nat → Nat → Value) (o : Value) (w : World) (hv : ∀ B, BlkSat B w o (.row n 2 f)) : Calls Try.prog 36 #[p.v o] w fun e w' => e = .returned (.string (fieldsB p)) ∧ Below w.heap.size w w' := by
  refine calls_runO CPf_ok follows Try.func36 (by kernel_rfl) (by kernel_rfl) (noloops (by kernel_rfl)) (pfields_run p n f) ?_ (mem_row (hv [o])) rfl
  have z : (ByteArray.mk #[]).size ≤ 1099511627776 := Nat.zero_le _
  have q : ∀ s x k, (Oct.put s x k).size = s.size + k.toNat := Oct.put_size
  unfold fieldsB fieldsS fieldsA
  generalize Head.acks p.kind = x
  generalize served p.kind = y
  generalize p.long = l
  by_cases h7 : p.kind = 7
  · rw [if_pos h7, decide_eq_true h7]
    cases x <;> cases y <;> cases l <;>
      (repeat' (first | (with_reducible refine t_need ?_ ?_) | (with_reducible refine t_ite ?_ ?_; all_goals intro h; all_goals (first | (simp only [Bool.false_eq_true, Bool.true_eq_false] at h; done) | skip)) | (with_reducible refine t_leaf ?_))) <;>
      first | rfl | exact ⟨by decide, by decide, by first | exact z | (simp only [q]; decide)⟩
  · rw [if_neg h7, decide_eq_false h7]
    cases x <;> cases y <;> cases l <;>
      (repeat' (first | (with_reducible refine t_need ?_ ?_) | (with_reducible refine t_ite ?_ ?_; all_goals intro h; all_goals (first | (simp only [Bool.false_eq_true, Bool.true_eq_false] at h; done) | skip)) | (with_reducible refine t_leaf ?_))) <;>
      first | rfl | exact ⟨by decide, by decide, by first | exact z | (simp only [q]; decide)⟩
end Go.Proofs.Ytikiieclbeiicaa
