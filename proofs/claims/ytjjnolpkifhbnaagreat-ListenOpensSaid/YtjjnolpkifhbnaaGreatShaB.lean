/- The sum of bytes that come in pieces: whole blocks. No conditions. -/
import Derived.Test.YtjjnolpkifhbnaaGreatShaW
namespace Go.Proofs.YtjjnolpkifhbnaaGreat
set_option linter.unusedVariables false
set_option linter.unusedSimpArgs false
open Go.RowKit Sym Sha

def tWith : List Value → Option (List Prop × Value)
  | [.agg ⟨[.int .u32 a, .int .u32 b, .int .u32 c, .int .u32 d, .int .u32 e, .int .u32 f, .int .u32 g, .int .u32 h]⟩, .string s] => some ([s.size = 64], hv (blockH ⟨a, b, c, d, e, f, g, h⟩ s.data.toList))
  | _ => none
def tText : List Value → Option (List Prop × Value)
  | [.agg ⟨[.int .u32 a, .int .u32 b, .int .u32 c, .int .u32 d, .int .u32 e, .int .u32 f, .int .u32 g, .int .u32 h]⟩] => some ([], .string (ba (txt ⟨a, b, c, d, e, f, g, h⟩)))
  | _ => none
def SSha5 : Tab := addS 119 tWith (addS 110 tText SSha4)
theorem SSha5_ok : TabOk Tryz.prog SSha5 := addS_ok (addS_ok SSha4_ok (by kernel_rfl) (by (intro xs p v h hp w; unfold tText at h; (split at h) <;> first | (cases h; done) | (simp only [Option.some.injEq, Prod.mk.injEq] at h; obtain ⟨rfl, rfl⟩ := h; exact sha_text _ w)))) (by kernel_rfl) (by (intro xs p v h hp w; unfold tWith at h; (split at h) <;> first | (cases h; done) | (simp only [Option.some.injEq, Prod.mk.injEq] at h; obtain ⟨rfl, rfl⟩ := h; exact sha_with _ _ (hp _ (List.mem_cons_self ..)) w)))
def stC (h : H8) (r : ByteArray) (n : Int) : List SV := [.v (.int .u32 h.a), .v (.int .u32 h.b), .v (.int .u32 h.c), .v (.int .u32 h.d), .v (.int .u32 h.e), .v (.int .u32 h.f), .v (.int .u32 h.g), .v (.int .u32 h.h), .v (.string r), .v (.int .i64 n)]
def stB (h : H8) (r : ByteArray) (n : Int) : St := ⟨[(0, some (.ptr 0 0))], [.own (stC h r n)]⟩
set_option maxRecDepth 100000 in
theorem stB_round (h : H8) (r : ByteArray) (n : Int) : roundM Tryz.prog (onlyS Tryz.prog SSha5) noL 29 0 (loopAt Tryz.f108 0) 1 [0] [] [] (stB h r n) = .ite (decide ((↑r.size : Int) ≥ (64 : Int))) (.need ((0 : Int) ≤ (0 : Int) ∧ (0 : Int) ≤ (64 : Int) ∧ (64 : Int) ≤ (↑r.size : Int)) (.need ((r.extract 0 64).size = 64) (.need ((0 : Int) ≤ (64 : Int) ∧ (64 : Int) ≤ (↑r.size : Int) ∧ (↑r.size : Int) ≤ (↑r.size : Int)) (.leaf (Ex.normal, St.mk [(0, some (.ptr 0 0))] [.own [.v (.int .u32 (blockH h (r.extract (Int.toNat (0 : Int)) (Int.toNat (64 : Int))).1.toList).a), .v (.int .u32 (blockH h (r.extract (Int.toNat (0 : Int)) (Int.toNat (64 : Int))).1.toList).b), .v (.int .u32 (blockH h (r.extract (Int.toNat (0 : Int)) (Int.toNat (64 : Int))).1.toList).c), .v (.int .u32 (blockH h (r.extract (Int.toNat (0 : Int)) (Int.toNat (64 : Int))).1.toList).d), .v (.int .u32 (blockH h (r.extract (Int.toNat (0 : Int)) (Int.toNat (64 : Int))).1.toList).e), .v (.int .u32 (blockH h (r.extract (Int.toNat (0 : Int)) (Int.toNat (64 : Int))).1.toList).f), .v (.int .u32 (blockH h (r.extract (Int.toNat (0 : Int)) (Int.toNat (64 : Int))).1.toList).g), .v (.int .u32 (blockH h (r.extract (Int.toNat (0 : Int)) (Int.toNat (64 : Int))).1.toList).h), .v (.string (r.extract 64 (↑r.size : Int).toNat)), .v (.int .i64 n)]]))))) (.leaf (Ex.exit 0, St.mk [(0, some (.ptr 0 0))] [.own [.v (.int .u32 h.a), .v (.int .u32 h.b), .v (.int .u32 h.c), .v (.int .u32 h.d), .v (.int .u32 h.e), .v (.int .u32 h.f), .v (.int .u32 h.g), .v (.int .u32 h.h), .v (.string r), .v (.int .i64 n)]])) := by kernel_rfl
def withSt {α : Type} (st : St) (j : Nat) (k : H8 → ByteArray → Int → T α) : T α := match st.H[j]? with
  | some (.own cells) => (match plains cells with
    | some [.int .u32 a, .int .u32 b, .int .u32 c, .int .u32 d, .int .u32 e, .int .u32 f, .int .u32 g, .int .u32 h, .string r, .int .i64 n] => k ⟨a, b, c, d, e, f, g, h⟩ r n
    | _ => .stuck 162)
  | _ => .stuck 163
theorem runSt {P : Program} {N : Nat} {c : Code} {st : St} {t : Nat} {k : H8 → ByteArray → Int → T (Ex × St)} (h : ∀ s r n, RunOk P N c st (k s r n)) : RunOk P N c st (withSt st t k) := by
  unfold withSt; split
  · split
    · exact h _ _ _
    · exact .stuck
  · exact .stuck
/-- behind i blocks -/
def stI (h : H8) (r : List UInt8) (n : Int) (i : Nat) : St := stB (foldB i h r) (ba (r.drop (64 * i))) n
theorem foldB_succ (i : Nat) (h : H8) (l : List UInt8) : foldB (i + 1) h l = blockH (foldB i h l) ((l.drop (64 * i)).take 64) := by rw [foldB_add]; rfl
theorem stI_step (h : H8) (r : List UInt8) (n : Int) : ∀ i : Nat, i ≤ r.length / 64 → i ≠ r.length / 64 → (roundM Tryz.prog (onlyS Tryz.prog SSha5) noL 29 0 (loopAt Tryz.f108 0) 1 [0] [] [] (stI h r n i)).ok fun x => x.1 = .normal ∧ ∃ j, j ≤ r.length / 64 ∧ r.length / 64 - j < r.length / 64 - i ∧ x.2 = stI h r n j := by
  intro i hi hne
  rw [stI, stB_round]
  have hl : (ba (r.drop (64 * i))).size = r.length - 64 * i := by rw [ba_len, List.length_drop]
  simp only [T.ok, hl, decide_eq_true_eq, decide_eq_false_iff_not, ba_extract, ba_len, List.length_take, List.length_drop]
  refine ⟨fun _ => ⟨by omega, by omega, by omega, trivial, i + 1, by omega, by omega, ?_⟩, fun h => by omega⟩
  have e1 : (List.take (Int.toNat 64 - Int.toNat 0) (List.drop (Int.toNat 0) (List.drop (64 * i) r))) = (r.drop (64 * i)).take 64 := rfl
  have e2 : ba (List.take (((r.length - 64 * i : Nat) : Int).toNat - 64) (List.drop 64 (List.drop (64 * i) r))) = ba (r.drop (64 * (i + 1))) := by
    rw [List.drop_drop, List.take_of_length_le (by rw [List.length_drop]; omega)]
    congr 2
  rw [e2]
  unfold stI
  rw [foldB_succ]
  rfl
def LBlocks (P : Program) (S : Tab) (fn : Func) : Nat → St → Option (T (Ex × St)) :=
  addL 0 (fun st => withSt st 0 fun h r n => .need (st.H.length = 1) (.need (st.tidy 1 [0] [] [] = stI h r.data.toList n 0) ((roundM P (onlyS P S) noL 29 0 (loopAt fn 0) 1 [0] [] [] (closeAt [] (stI h r.data.toList n (r.data.toList.length / 64)))).bind (lastX 0)))) noL
set_option maxRecDepth 100000 in
theorem blocks_run (h : H8) (r : ByteArray) (n : Int) : runF Tryz.prog (onlyS Tryz.prog SSha5) (LBlocks Tryz.prog SSha5 Tryz.f108) Tryz.f108 (Tryz.f108.body.getD .skip) [.ptr 0 0] [.own (stC h r n)] = .need (1 = 1) (.need (St.mk [(0, some (.ptr 0 0))] [.own [.v (.int .u32 h.a), .v (.int .u32 h.b), .v (.int .u32 h.c), .v (.int .u32 h.d), .v (.int .u32 h.e), .v (.int .u32 h.f), .v (.int .u32 h.g), .v (.int .u32 h.h), .v (.string r), .v (.int .i64 n)]] = stI h r.1.toList n 0) (.ite (decide ((↑(ba (List.drop (64 * r.1.toList.length.div 64) r.1.toList)).size : Int) ≥ (64 : Int))) (.need ((0 : Int) ≤ (0 : Int) ∧ (0 : Int) ≤ (64 : Int) ∧ (64 : Int) ≤ (↑(ba (List.drop (64 * (r.data.toList.length / 64)) r.data.toList)).size : Int)) (.need (((ba (List.drop (64 * r.1.toList.length.div 64) r.1.toList)).extract 0 64).size = 64) (.need ((0 : Int) ≤ (64 : Int) ∧ (64 : Int) ≤ (↑(ba (List.drop (64 * (r.data.toList.length / 64)) r.data.toList)).size : Int) ∧ (↑(ba (List.drop (64 * (r.data.toList.length / 64)) r.data.toList)).size : Int) ≤ (↑(ba (List.drop (64 * (r.data.toList.length / 64)) r.data.toList)).size : Int)) (T.stuck 39)))) (.leaf (SV.v (Value.tuple (Array.mk [])), [.own [.v (.int .u32 (foldB (r.1.toList.length.div 64) h r.1.toList).a), .v (.int .u32 (foldB (r.1.toList.length.div 64) h r.1.toList).b), .v (.int .u32 (foldB (r.1.toList.length.div 64) h r.1.toList).c), .v (.int .u32 (foldB (r.1.toList.length.div 64) h r.1.toList).d), .v (.int .u32 (foldB (r.1.toList.length.div 64) h r.1.toList).e), .v (.int .u32 (foldB (r.1.toList.length.div 64) h r.1.toList).f), .v (.int .u32 (foldB (r.1.toList.length.div 64) h r.1.toList).g), .v (.int .u32 (foldB (r.1.toList.length.div 64) h r.1.toList).h), .v (.string (ba (List.drop (64 * r.1.toList.length.div 64) r.1.toList))), .v (.int .i64 n)]])))) := by kernel_rfl
def fBlocks : List SV → List Blk → Option (T (SV × List Blk))
  | [.ptr 0 0], [.own [.v (.int .u32 a), .v (.int .u32 b), .v (.int .u32 c), .v (.int .u32 d), .v (.int .u32 e), .v (.int .u32 f), .v (.int .u32 g), .v (.int .u32 h), .v (.string r), .v (.int .i64 n)]] =>
    some (.leaf (.v (.tuple #[]), [.own (stC (foldA ⟨a, b, c, d, e, f, g, h⟩ r.data.toList) (ba (restA r.data.toList)) n)]))
  | _, _ => none
set_option maxRecDepth 100000 in
theorem fBlocks_ok : EntryOk Tryz.prog 108 fBlocks := by
  intro ss H t ht bs B w vs hm hv Qs hq
  unfold fBlocks at ht
  split at ht
  · rename_i a b c d e f g h r n
    simp only [Option.some.injEq] at ht
    subst ht
    refine tree_ok (onlyS_ok SSha5_ok) follows Tryz.func108 (by kernel_rfl) (by kernel_rfl) (one_loop (b := loopAt Tryz.f108 0) (id := 0) (by kernel_rfl) fun st t h => ?_) (blocks_run ⟨a, b, c, d, e, f, g, h⟩ r n) (fun Qs h => ?_) hm hv hq
    · rw [addL_same h]
      exact runSt fun h r n => loop_cnt (onlyS_ok SSha5_ok) follows (by kernel_rfl) (noloops (by kernel_rfl)) (fun i : Nat => i ≤ r.data.toList.length / 64) (fun i => stI h r.data.toList n i) (fun i => r.data.toList.length / 64 - i) 1 [0] [] [] (r.data.toList.length / 64) [] (stI_step h _ n) (Nat.zero_le _)
    · have hl : (ba (List.drop (64 * (r.data.toList.length / 64)) r.data.toList)).size < 64 := by rw [ba_len, List.length_drop]; omega
      refine ⟨rfl, ?_, (fun e => ?_), fun _ => h⟩
      · show stB _ r n = stI _ _ _ 0
        unfold stI
        rw [Nat.mul_zero, List.drop_zero, ba_of]; rfl
      · have e := of_decide_eq_true e
        have hl' : (ba (List.drop (64 * (r.data.toList.length / 64)) r.data.toList)).size ≥ 64 := by exact Int.ofNat_le.1 e
        omega
  · cases ht
def FSha1 : LTab := addF 108 fBlocks noF
theorem FSha1_ok : LOk Tryz.prog FSha1 := addF_ok noF_ok (by kernel_rfl) fBlocks_ok
end Go.Proofs.YtjjnolpkifhbnaaGreat
