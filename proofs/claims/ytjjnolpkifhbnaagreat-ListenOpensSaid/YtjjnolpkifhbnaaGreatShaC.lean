/- The sum of bytes. Conditions: texts shorter than 2 to the 40. -/
import Derived.Test.YtjjnolpkifhbnaaGreatShaB
import Derived.Test.YtjjnolpkifhbnaaGreatShelf
namespace Go.Proofs.YtjjnolpkifhbnaaGreat
set_option linter.unusedVariables false
set_option linter.unusedSimpArgs false
open Go.RowKit Sym Sha

def tRepeat : List Value → Option (List Prop × Value)
  | [.string s, .int .i64 k] => some ([0 ≤ k ∧ k ≤ 9223372036854775807 ∧ s.size * k.toNat ≤ 140737488355328], .string (ba (Lib.repeatL s.data.toList k.toNat)))
  | _ => none
theorem repeat_tab (s : ByteArray) (k : Int) (h : 0 ≤ k ∧ k ≤ 9223372036854775807 ∧ s.size * k.toNat ≤ 140737488355328) (w : World) : Calls Tryz.prog 93 #[.string s, .int .i64 k] w fun e w' => e = .returned (.string (ba (Lib.repeatL s.data.toList k.toNat))) ∧ Below w.heap.size w w' := by
  obtain ⟨n, rfl⟩ := Int.eq_ofNat_of_zero_le h.1
  exact Tryz.strings_Repeat s n w (by omega) h.2.2
theorem repeatL_one (x : UInt8) (n : Nat) : Lib.repeatL [x] n = List.replicate n x := by
  induction n with
  | zero => rfl
  | succ n ih => rw [Lib.repeatL, ih, List.replicate_succ]; rfl
def SSha6 : Tab := addS 93 tRepeat SSha5
theorem SSha6_ok : TabOk Tryz.prog SSha6 := addS_ok SSha5_ok (by kernel_rfl) (by (intro xs p v h hp w; unfold tRepeat at h; (split at h) <;> first | (cases h; done) | (simp only [Option.some.injEq, Prod.mk.injEq] at h; obtain ⟨rfl, rfl⟩ := h; exact repeat_tab _ _ (hp _ (List.mem_cons_self ..)) w)))
set_option maxRecDepth 100000 in
theorem sum_run (h : H8) (r : ByteArray) (n : Int) : runF Tryz.prog (both Tryz.prog SSha6 FSha1 [108]) noL Tryz.f98 (Tryz.f98.body.getD .skip) [.ptr 0 0] [.own (stC h r n)] = .need (r.size + 1 ≤ 9223372036854775807) (.need ((0 : Int) ≤ (IntKind.i64.wrap (IntKind.i64.wrap (IntKind.i64.wrap ((128 : Int) - (↑r.size : Int)) - (1 : Int)) - (8 : Int))).tmod (64 : Int) ∧ (IntKind.i64.wrap (IntKind.i64.wrap (IntKind.i64.wrap ((128 : Int) - (↑r.size : Int)) - (1 : Int)) - (8 : Int))).tmod (64 : Int) ≤ (9223372036854775807 : Int) ∧ (ByteArray.mk #[(0 : UInt8)]).size * ((IntKind.i64.wrap (IntKind.i64.wrap (IntKind.i64.wrap ((128 : Int) - (↑r.size : Int)) - (1 : Int)) - (8 : Int))).tmod (64 : Int)).toNat ≤ 140737488355328) (.need ((r ++ ByteArray.mk (Array.mk [UInt8.ofBitVec (BitVec.ofFin (Fin.mk 128 (Nat.mod_lt 128 (BitVec.ofNat._proof_1 8))))])).size + (ba (Lib.repeatL (Array.mk [UInt8.ofBitVec (BitVec.ofFin (Fin.mk 0 (Nat.mod_lt 0 (BitVec.ofNat._proof_1 8))))]).toList ((IntKind.i64.wrap (IntKind.i64.wrap (IntKind.i64.wrap ((128 : Int) - (↑r.size : Int)) - (1 : Int)) - (8 : Int))).tmod (64 : Int)).toNat)).size ≤ 9223372036854775807) (.need ((0 : Int) ≤ (8 : Int) ∧ (8 : Int) ≤ (8 : Int) ∧ (r ++ ByteArray.mk #[(128 : UInt8)] ++ ba (Lib.repeatL (ByteArray.mk #[(0 : UInt8)]).data.toList ((IntKind.i64.wrap (IntKind.i64.wrap (IntKind.i64.wrap ((128 : Int) - (↑r.size : Int)) - (1 : Int)) - (8 : Int))).tmod (64 : Int)).toNat)).size ≤ 1099511627776) (.leaf (.v (.string (ba (txt (foldA h (Oct.put (r ++ ByteArray.mk #[(128 : UInt8)] ++ ba (Lib.repeatL (ByteArray.mk #[(0 : UInt8)]).data.toList ((IntKind.i64.wrap (IntKind.i64.wrap (IntKind.i64.wrap ((128 : Int) - (↑r.size : Int)) - (1 : Int)) - (8 : Int))).tmod (64 : Int)).toNat)) (IntKind.i64.wrap (n * (8 : Int))) (8 : Int)).1.toList)))), [.own [.v (.int .u32 h.a), .v (.int .u32 h.b), .v (.int .u32 h.c), .v (.int .u32 h.d), .v (.int .u32 h.e), .v (.int .u32 h.f), .v (.int .u32 h.g), .v (.int .u32 h.h), .v (.string r), .v (.int .i64 n)], .own [.v (.int .u32 (foldA h (Oct.put (r ++ ByteArray.mk #[(128 : UInt8)] ++ ba (Lib.repeatL (ByteArray.mk #[(0 : UInt8)]).data.toList ((IntKind.i64.wrap (IntKind.i64.wrap (IntKind.i64.wrap ((128 : Int) - (↑r.size : Int)) - (1 : Int)) - (8 : Int))).tmod (64 : Int)).toNat)) (IntKind.i64.wrap (n * (8 : Int))) (8 : Int)).1.toList).a), .v (.int .u32 (foldA h (Oct.put (r ++ ByteArray.mk #[(128 : UInt8)] ++ ba (Lib.repeatL (ByteArray.mk #[(0 : UInt8)]).data.toList ((IntKind.i64.wrap (IntKind.i64.wrap (IntKind.i64.wrap ((128 : Int) - (↑r.size : Int)) - (1 : Int)) - (8 : Int))).tmod (64 : Int)).toNat)) (IntKind.i64.wrap (n * (8 : Int))) (8 : Int)).1.toList).b), .v (.int .u32 (foldA h (Oct.put (r ++ ByteArray.mk #[(128 : UInt8)] ++ ba (Lib.repeatL (ByteArray.mk #[(0 : UInt8)]).data.toList ((IntKind.i64.wrap (IntKind.i64.wrap (IntKind.i64.wrap ((128 : Int) - (↑r.size : Int)) - (1 : Int)) - (8 : Int))).tmod (64 : Int)).toNat)) (IntKind.i64.wrap (n * (8 : Int))) (8 : Int)).1.toList).c), .v (.int .u32 (foldA h (Oct.put (r ++ ByteArray.mk #[(128 : UInt8)] ++ ba (Lib.repeatL (ByteArray.mk #[(0 : UInt8)]).data.toList ((IntKind.i64.wrap (IntKind.i64.wrap (IntKind.i64.wrap ((128 : Int) - (↑r.size : Int)) - (1 : Int)) - (8 : Int))).tmod (64 : Int)).toNat)) (IntKind.i64.wrap (n * (8 : Int))) (8 : Int)).1.toList).d), .v (.int .u32 (foldA h (Oct.put (r ++ ByteArray.mk #[(128 : UInt8)] ++ ba (Lib.repeatL (ByteArray.mk #[(0 : UInt8)]).data.toList ((IntKind.i64.wrap (IntKind.i64.wrap (IntKind.i64.wrap ((128 : Int) - (↑r.size : Int)) - (1 : Int)) - (8 : Int))).tmod (64 : Int)).toNat)) (IntKind.i64.wrap (n * (8 : Int))) (8 : Int)).1.toList).e), .v (.int .u32 (foldA h (Oct.put (r ++ ByteArray.mk #[(128 : UInt8)] ++ ba (Lib.repeatL (ByteArray.mk #[(0 : UInt8)]).data.toList ((IntKind.i64.wrap (IntKind.i64.wrap (IntKind.i64.wrap ((128 : Int) - (↑r.size : Int)) - (1 : Int)) - (8 : Int))).tmod (64 : Int)).toNat)) (IntKind.i64.wrap (n * (8 : Int))) (8 : Int)).1.toList).f), .v (.int .u32 (foldA h (Oct.put (r ++ ByteArray.mk #[(128 : UInt8)] ++ ba (Lib.repeatL (ByteArray.mk #[(0 : UInt8)]).data.toList ((IntKind.i64.wrap (IntKind.i64.wrap (IntKind.i64.wrap ((128 : Int) - (↑r.size : Int)) - (1 : Int)) - (8 : Int))).tmod (64 : Int)).toNat)) (IntKind.i64.wrap (n * (8 : Int))) (8 : Int)).1.toList).g), .v (.int .u32 (foldA h (Oct.put (r ++ ByteArray.mk #[(128 : UInt8)] ++ ba (Lib.repeatL (ByteArray.mk #[(0 : UInt8)]).data.toList ((IntKind.i64.wrap (IntKind.i64.wrap (IntKind.i64.wrap ((128 : Int) - (↑r.size : Int)) - (1 : Int)) - (8 : Int))).tmod (64 : Int)).toNat)) (IntKind.i64.wrap (n * (8 : Int))) (8 : Int)).1.toList).h), .v (.string (ba (restA (Oct.put (r ++ ByteArray.mk #[(128 : UInt8)] ++ ba (Lib.repeatL (ByteArray.mk #[(0 : UInt8)]).data.toList ((IntKind.i64.wrap (IntKind.i64.wrap (IntKind.i64.wrap ((128 : Int) - (↑r.size : Int)) - (1 : Int)) - (8 : Int))).tmod (64 : Int)).toNat)) (IntKind.i64.wrap (n * (8 : Int))) (8 : Int)).1.toList))), .v (.int .i64 n)]]))))) := by kernel_rfl
theorem noughts (m : Nat) (h : m < 64) : (IntKind.i64.wrap (IntKind.i64.wrap (IntKind.i64.wrap (128 - (m : Int)) - 1) - 8)).tmod 64 = (((119 - m % 64) % 64 : Nat) : Int) := by
  rw [w64 (128 - (m : Int)) (by omega) (by omega), w64 (128 - (m : Int) - 1) (by omega) (by omega), w64 _ (by omega) (by omega)]
  rw [Int.tmod_eq_emod_of_nonneg (by omega)]
  omega
theorem put_tail (r : ByteArray) (n : Int) (hr : r.size < 64) (h0 : 0 ≤ n) (h1 : n ≤ 1099511627776) :
    (Oct.put (r ++ ByteArray.mk #[(128 : UInt8)] ++ ba (Lib.repeatL (ByteArray.mk #[(0 : UInt8)]).data.toList ((IntKind.i64.wrap (IntKind.i64.wrap (IntKind.i64.wrap (128 - (r.size : Int)) - 1) - 8)).tmod 64).toNat)) (IntKind.i64.wrap (n * 8)) 8).data.toList = r.data.toList ++ tail r.size n.toNat := by
  rw [noughts _ hr, Int.toNat_natCast]
  have e1 : (ByteArray.mk #[(0 : UInt8)]).data.toList = [0] := rfl
  have e2 : Oct.u64 (IntKind.i64.wrap (n * 8)) = 8 * n.toNat % 18446744073709551616 := by
    rw [w64 _ (by omega) (by omega)]; unfold Oct.u64; omega
  rw [e1, repeatL_one]
  unfold Oct.put
  rw [e2]
  simp [ByteArray.data_append, ba, tail]
def fSum : List SV → List Blk → Option (T (SV × List Blk))
  | [.ptr 0 0], [.own [.v (.int .u32 a), .v (.int .u32 b), .v (.int .u32 c), .v (.int .u32 d), .v (.int .u32 e), .v (.int .u32 f), .v (.int .u32 g), .v (.int .u32 h), .v (.string r), .v (.int .i64 n)]] =>
    some (.need (r.size < 64 ∧ 0 ≤ n ∧ n ≤ 1099511627776) (.leaf (.v (.string (ba (txt (foldA ⟨a, b, c, d, e, f, g, h⟩ (r.data.toList ++ tail r.size n.toNat))))), [.own (stC ⟨a, b, c, d, e, f, g, h⟩ r n)])))
  | [.v (.pointer none)], [] => some (.leaf (.c (.string ⟨⟨[]⟩⟩), []))
  | _, _ => none
set_option maxRecDepth 100000 in
theorem sumNil_run  : runF Tryz.prog (both Tryz.prog SSha6 FSha1 [108]) noL Tryz.f98 (Tryz.f98.body.getD .skip) [.v (.pointer none)] [] = .ite true (.leaf (SV.c (Value.string (ByteArray.mk (Array.mk []))), [])) (T.stuck 2) := by kernel_rfl
set_option maxRecDepth 100000 in
theorem fSum_ok : EntryOk Tryz.prog 98 fSum := by
  intro ss H t ht bs B w vs hm hv Qs hq
  unfold fSum at ht
  split at ht
  · rename_i a b c d e f g h r n
    simp only [Option.some.injEq] at ht
    subst ht
    obtain ⟨⟨p1, p2, p3⟩, hq⟩ := hq
    refine treeT_ok (both_ok SSha6_ok FSha1_ok) follows Tryz.func98 (by kernel_rfl) (by kernel_rfl) (noloops (by kernel_rfl)) (sum_run ⟨a, b, c, d, e, f, g, h⟩ r n) (fun Qs h => ?_) hm hv hq
    have hn := noughts r.size p1
    have hp := put_tail r n p1 p2 p3
    have z0 : (ByteArray.mk #[(0 : UInt8)]).size = 1 := rfl
    have z1 : (ByteArray.mk #[(128 : UInt8)]).size = 1 := rfl
    have e1 : (ByteArray.mk #[(0 : UInt8)]).data.toList = [0] := rfl
    refine ⟨by omega, ⟨by rw [hn]; omega, by rw [hn]; omega, by rw [hn, z0]; omega⟩, ?_, ⟨by omega, by omega, ?_⟩, ?_⟩
    · show (r ++ ByteArray.mk #[(128 : UInt8)]).size + (ba (Lib.repeatL [0] _)).size ≤ _
      rw [hn, repeatL_one, ByteArray.size_append, ba_len, z1]; simp; omega
    · rw [hn, e1, repeatL_one, ByteArray.size_append, ByteArray.size_append, ba_len, z1]; simp; omega
    · rw [← hp] at h
      exact h
  · simp only [Option.some.injEq] at ht
    subst ht
    exact treeT_ok (both_ok SSha6_ok FSha1_ok) follows Tryz.func98 (by kernel_rfl) (by kernel_rfl) (noloops (by kernel_rfl)) sumNil_run (fun Qs h => ⟨fun _ => h, (fun e => by cases e)⟩) hm hv hq
  · cases ht
end Go.Proofs.YtjjnolpkifhbnaaGreat
