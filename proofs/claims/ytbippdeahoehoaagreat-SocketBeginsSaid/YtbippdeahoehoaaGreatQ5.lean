/- Parts of a proof: ShaC, ShaD, ShaR, ShaQ, MacA, MacB, MacC, MacD. No conditions. -/
import Derived.Test.YtbippdeahoehoaaGreatQ4
import Derived.Test.YtbippdeahoehoaaGreatShelf
set_option linter.unusedVariables false
set_option linter.unusedSimpArgs false
namespace Go.Proofs.YtbippdeahoehoaaGreat
open Go.RowKit Sym Sha
def tRepeat : List Value → Option (List Prop × Value)
  | [.string s, .int .i64 k] => some ([0 ≤ k ∧ k ≤ 9223372036854775807 ∧ s.size * k.toNat ≤ 140737488355328], .string (ba (Lib.repeatL s.data.toList k.toNat)))
  | _ => none
theorem repeat_tab (s : ByteArray) (k : Int) (h : 0 ≤ k ∧ k ≤ 9223372036854775807 ∧ s.size * k.toNat ≤ 140737488355328) (w : World) : Calls Tryz.prog 357 #[.string s, .int .i64 k] w fun e w' => e = .returned (.string (ba (Lib.repeatL s.data.toList k.toNat))) ∧ Below w.heap.size w w' := by
  obtain ⟨n, rfl⟩ := Int.eq_ofNat_of_zero_le h.1
  exact Tryz.strings_Repeat s n w (by omega) h.2.2
theorem repeatL_one (x : UInt8) (n : Nat) : Lib.repeatL [x] n = List.replicate n x := by
  induction n with
  | zero => rfl
  | succ n ih => rw [Lib.repeatL, ih, List.replicate_succ]; rfl
def SSha6 : Tab := addS 357 tRepeat SSha5
theorem SSha6_ok : TabOk Tryz.prog SSha6 := addS_ok SSha5_ok (by kernel_rfl) (by (intro xs p v h hp w; unfold tRepeat at h; (split at h) <;> first | (cases h; done) | (simp only [Option.some.injEq, Prod.mk.injEq] at h; obtain ⟨rfl, rfl⟩ := h; exact repeat_tab _ _ (hp _ (List.mem_cons_self ..)) w)))
set_option maxRecDepth 100000 in
theorem sum_run (h : H8) (r : ByteArray) (n : Int) : runF Tryz.prog (both Tryz.prog SSha6 FSha1 [416]) noL Tryz.f362 (Tryz.f362.body.getD .skip) [.ptr 0 0] [.own (stC h r n)] = .chk (r.size + 1 ≤ 9223372036854775807) (.need ((0 : Int) ≤ (IntKind.i64.wrap (IntKind.i64.wrap (IntKind.i64.wrap ((128 : Int) - (↑r.size : Int)) - (1 : Int)) - (8 : Int))).tmod (64 : Int) ∧ (IntKind.i64.wrap (IntKind.i64.wrap (IntKind.i64.wrap ((128 : Int) - (↑r.size : Int)) - (1 : Int)) - (8 : Int))).tmod (64 : Int) ≤ (9223372036854775807 : Int) ∧ (ByteArray.mk #[(0 : UInt8)]).size * ((IntKind.i64.wrap (IntKind.i64.wrap (IntKind.i64.wrap ((128 : Int) - (↑r.size : Int)) - (1 : Int)) - (8 : Int))).tmod (64 : Int)).toNat ≤ 140737488355328) (.chk ((r ++ ByteArray.mk (Array.mk [UInt8.ofBitVec (BitVec.ofFin (Fin.mk 128 (Nat.mod_lt 128 (BitVec.ofNat._proof_1 8))))])).size + (ba (Lib.repeatL (Array.mk [UInt8.ofBitVec (BitVec.ofFin (Fin.mk 0 (Nat.mod_lt 0 (BitVec.ofNat._proof_1 8))))]).toList ((IntKind.i64.wrap (IntKind.i64.wrap (IntKind.i64.wrap ((128 : Int) - (↑r.size : Int)) - (1 : Int)) - (8 : Int))).tmod (64 : Int)).toNat)).size ≤ 9223372036854775807) (.need ((0 : Int) ≤ (8 : Int) ∧ (8 : Int) ≤ (8 : Int) ∧ (r ++ ByteArray.mk #[(128 : UInt8)] ++ ba (Lib.repeatL (ByteArray.mk #[(0 : UInt8)]).data.toList ((IntKind.i64.wrap (IntKind.i64.wrap (IntKind.i64.wrap ((128 : Int) - (↑r.size : Int)) - (1 : Int)) - (8 : Int))).tmod (64 : Int)).toNat)).size ≤ 1099511627776) (.leaf (.v (.string (ba (txt (foldA h (Oct.put (r ++ ByteArray.mk #[(128 : UInt8)] ++ ba (Lib.repeatL (ByteArray.mk #[(0 : UInt8)]).data.toList ((IntKind.i64.wrap (IntKind.i64.wrap (IntKind.i64.wrap ((128 : Int) - (↑r.size : Int)) - (1 : Int)) - (8 : Int))).tmod (64 : Int)).toNat)) (IntKind.i64.wrap (n * (8 : Int))) (8 : Int)).1.toList)))), [.own [.v (.int .u32 h.a), .v (.int .u32 h.b), .v (.int .u32 h.c), .v (.int .u32 h.d), .v (.int .u32 h.e), .v (.int .u32 h.f), .v (.int .u32 h.g), .v (.int .u32 h.h), .v (.string r), .v (.int .i64 n)], .own [.v (.int .u32 (foldA h (Oct.put (r ++ ByteArray.mk #[(128 : UInt8)] ++ ba (Lib.repeatL (ByteArray.mk #[(0 : UInt8)]).data.toList ((IntKind.i64.wrap (IntKind.i64.wrap (IntKind.i64.wrap ((128 : Int) - (↑r.size : Int)) - (1 : Int)) - (8 : Int))).tmod (64 : Int)).toNat)) (IntKind.i64.wrap (n * (8 : Int))) (8 : Int)).1.toList).a), .v (.int .u32 (foldA h (Oct.put (r ++ ByteArray.mk #[(128 : UInt8)] ++ ba (Lib.repeatL (ByteArray.mk #[(0 : UInt8)]).data.toList ((IntKind.i64.wrap (IntKind.i64.wrap (IntKind.i64.wrap ((128 : Int) - (↑r.size : Int)) - (1 : Int)) - (8 : Int))).tmod (64 : Int)).toNat)) (IntKind.i64.wrap (n * (8 : Int))) (8 : Int)).1.toList).b), .v (.int .u32 (foldA h (Oct.put (r ++ ByteArray.mk #[(128 : UInt8)] ++ ba (Lib.repeatL (ByteArray.mk #[(0 : UInt8)]).data.toList ((IntKind.i64.wrap (IntKind.i64.wrap (IntKind.i64.wrap ((128 : Int) - (↑r.size : Int)) - (1 : Int)) - (8 : Int))).tmod (64 : Int)).toNat)) (IntKind.i64.wrap (n * (8 : Int))) (8 : Int)).1.toList).c), .v (.int .u32 (foldA h (Oct.put (r ++ ByteArray.mk #[(128 : UInt8)] ++ ba (Lib.repeatL (ByteArray.mk #[(0 : UInt8)]).data.toList ((IntKind.i64.wrap (IntKind.i64.wrap (IntKind.i64.wrap ((128 : Int) - (↑r.size : Int)) - (1 : Int)) - (8 : Int))).tmod (64 : Int)).toNat)) (IntKind.i64.wrap (n * (8 : Int))) (8 : Int)).1.toList).d), .v (.int .u32 (foldA h (Oct.put (r ++ ByteArray.mk #[(128 : UInt8)] ++ ba (Lib.repeatL (ByteArray.mk #[(0 : UInt8)]).data.toList ((IntKind.i64.wrap (IntKind.i64.wrap (IntKind.i64.wrap ((128 : Int) - (↑r.size : Int)) - (1 : Int)) - (8 : Int))).tmod (64 : Int)).toNat)) (IntKind.i64.wrap (n * (8 : Int))) (8 : Int)).1.toList).e), .v (.int .u32 (foldA h (Oct.put (r ++ ByteArray.mk #[(128 : UInt8)] ++ ba (Lib.repeatL (ByteArray.mk #[(0 : UInt8)]).data.toList ((IntKind.i64.wrap (IntKind.i64.wrap (IntKind.i64.wrap ((128 : Int) - (↑r.size : Int)) - (1 : Int)) - (8 : Int))).tmod (64 : Int)).toNat)) (IntKind.i64.wrap (n * (8 : Int))) (8 : Int)).1.toList).f), .v (.int .u32 (foldA h (Oct.put (r ++ ByteArray.mk #[(128 : UInt8)] ++ ba (Lib.repeatL (ByteArray.mk #[(0 : UInt8)]).data.toList ((IntKind.i64.wrap (IntKind.i64.wrap (IntKind.i64.wrap ((128 : Int) - (↑r.size : Int)) - (1 : Int)) - (8 : Int))).tmod (64 : Int)).toNat)) (IntKind.i64.wrap (n * (8 : Int))) (8 : Int)).1.toList).g), .v (.int .u32 (foldA h (Oct.put (r ++ ByteArray.mk #[(128 : UInt8)] ++ ba (Lib.repeatL (ByteArray.mk #[(0 : UInt8)]).data.toList ((IntKind.i64.wrap (IntKind.i64.wrap (IntKind.i64.wrap ((128 : Int) - (↑r.size : Int)) - (1 : Int)) - (8 : Int))).tmod (64 : Int)).toNat)) (IntKind.i64.wrap (n * (8 : Int))) (8 : Int)).1.toList).h), .v (.string (ba (restA (Oct.put (r ++ ByteArray.mk #[(128 : UInt8)] ++ ba (Lib.repeatL (ByteArray.mk #[(0 : UInt8)]).data.toList ((IntKind.i64.wrap (IntKind.i64.wrap (IntKind.i64.wrap ((128 : Int) - (↑r.size : Int)) - (1 : Int)) - (8 : Int))).tmod (64 : Int)).toNat)) (IntKind.i64.wrap (n * (8 : Int))) (8 : Int)).1.toList))), .v (.int .i64 n)]]))))) := by kernel_rfl
theorem noughts (m : Nat) (h : m < 64) : (IntKind.i64.wrap (IntKind.i64.wrap (IntKind.i64.wrap (128 - (m : Int)) - 1) - 8)).tmod 64 = (((119 - m % 64) % 64 : Nat) : Int) := by
  rw [w64 (128 - (m : Int)) (by omega) (by omega), w64 (128 - (m : Int) - 1) (by omega) (by omega), w64 _ (by omega) (by omega)]
  rw [Int.tmod_eq_emod_of_nonneg (by omega)]
  omega
theorem put_tail (r : ByteArray) (n : Int) (hr : r.size < 64) (h0 : 0 ≤ n) (h1 : n ≤ 1099511627776) :
    (Oct.put (r ++ ByteArray.mk #[(128 : UInt8)] ++ ba (Lib.repeatL (ByteArray.mk #[(0 : UInt8)]).data.toList ((IntKind.i64.wrap (IntKind.i64.wrap (IntKind.i64.wrap (128 - (r.size : Int)) - 1) - 8)).tmod 64).toNat)) (IntKind.i64.wrap (n * 8)) 8).data.toList = r.data.toList ++ tail r.size n.toNat := by
  rw [noughts _ hr, Int.toNat_natCast]
  have e1 : (ByteArray.mk #[(0 : UInt8)]).data.toList = [0] := rfl
  have e2 : Oct.u64 (IntKind.i64.wrap (n * 8)) = 8 * n.toNat % 18446744073709551616 := by
    rw [w64 _ (by omega) (by omega)]; unfold Oct.u64; omega
  rw [e1, repeatL_one]
  unfold Oct.put
  rw [e2]
  simp [ByteArray.data_append, ba, tail]
def fSum : List SV → List Blk → Option (T (SV × List Blk))
  | [.ptr 0 0], [.own [.v (.int .u32 a), .v (.int .u32 b), .v (.int .u32 c), .v (.int .u32 d), .v (.int .u32 e), .v (.int .u32 f), .v (.int .u32 g), .v (.int .u32 h), .v (.string r), .v (.int .i64 n)]] =>
    some (.need (r.size < 64 ∧ 0 ≤ n ∧ n ≤ 1099511627776) (.leaf (.v (.string (ba (txt (foldA ⟨a, b, c, d, e, f, g, h⟩ (r.data.toList ++ tail r.size n.toNat))))), [.own (stC ⟨a, b, c, d, e, f, g, h⟩ r n)])))
  | [.v (.pointer none)], [] => some (.leaf (.c (.string ⟨⟨[]⟩⟩), []))
  | _, _ => none
set_option maxRecDepth 100000 in
theorem sumNil_run  : runF Tryz.prog (both Tryz.prog SSha6 FSha1 [416]) noL Tryz.f362 (Tryz.f362.body.getD .skip) [.v (.pointer none)] [] = .ite true (.leaf (SV.c (Value.string (ByteArray.mk (Array.mk []))), [])) (T.stuck 2) := by kernel_rfl
set_option maxRecDepth 100000 in
theorem fSum_ok : EntryOk Tryz.prog 362 fSum := by
  intro ss H t ht bs B w vs hm hv Qs hq
  unfold fSum at ht
  split at ht
  · rename_i a b c d e f g h r n
    simp only [Option.some.injEq] at ht
    subst ht
    obtain ⟨⟨p1, p2, p3⟩, hq⟩ := hq
    refine treeT_ok (both_ok SSha6_ok FSha1_ok) follows Tryz.func362 (by kernel_rfl) (by kernel_rfl) (noloops (by kernel_rfl)) (sum_run ⟨a, b, c, d, e, f, g, h⟩ r n) (fun Qs h => ?_) hm hv hq
    have hn := noughts r.size p1
    have hp := put_tail r n p1 p2 p3
    have z0 : (ByteArray.mk #[(0 : UInt8)]).size = 1 := rfl
    have z1 : (ByteArray.mk #[(128 : UInt8)]).size = 1 := rfl
    have e1 : (ByteArray.mk #[(0 : UInt8)]).data.toList = [0] := rfl
    refine ⟨by omega, ⟨by rw [hn]; omega, by rw [hn]; omega, by rw [hn, z0]; omega⟩, ?_, ⟨by omega, by omega, ?_⟩, ?_⟩
    · show (r ++ ByteArray.mk #[(128 : UInt8)]).size + (ba (Lib.repeatL [0] _)).size ≤ _
      rw [hn, repeatL_one, ByteArray.size_append, ba_len, z1]; simp; omega
    · rw [hn, e1, repeatL_one, ByteArray.size_append, ByteArray.size_append, ba_len, z1]; simp; omega
    · rw [← hp] at h
      exact h
  · simp only [Option.some.injEq] at ht
    subst ht
    exact treeT_ok (both_ok SSha6_ok FSha1_ok) follows Tryz.func362 (by kernel_rfl) (by kernel_rfl) (noloops (by kernel_rfl)) sumNil_run (fun Qs h => ⟨fun _ => h, (fun e => by cases e)⟩) hm hv hq
  · cases ht
set_option maxRecDepth 100000 in
theorem begin_run  : runV Tryz.prog (onlyS Tryz.prog SSha6) noL Tryz.f415 [] = .leaf (Value.agg (Array.mk [Value.int IntKind.u32 1779033703, Value.int IntKind.u32 3144134277, Value.int IntKind.u32 1013904242, Value.int IntKind.u32 2773480762, Value.int IntKind.u32 1359893119, Value.int IntKind.u32 2600822924, Value.int IntKind.u32 528734635, Value.int IntKind.u32 1541459225])) := by kernel_rfl
def tBegin : List Value → Option (List Prop × Value) | [] => some ([], hv H0) | _ => none
theorem sha_begin (w : World) : Calls Tryz.prog 415 #[] w fun e w' => e = .returned (hv H0) ∧ Below w.heap.size w w' := by
  refine calls_runV (onlyS_ok SSha6_ok) follows Tryz.func415 (by kernel_rfl) (by kernel_rfl) noL_ok (begin_run) ?_ w
  rfl
def SSha7 : Tab := addS 415 tBegin SSha6
theorem SSha7_ok : TabOk Tryz.prog SSha7 := addS_ok SSha6_ok (by kernel_rfl) (by (intro xs p v h hp w; unfold tBegin at h; (split at h) <;> first | (cases h; done) | (simp only [Option.some.injEq, Prod.mk.injEq] at h; obtain ⟨rfl, rfl⟩ := h; exact sha_begin w)))
def FSha2 (P : Program) (fAdd fNew : Func) : LTab := addF 362 fSum (addT 359 (trimE (inl P (both P SSha7 FSha1 [416]) noL fAdd)) (addT 358 (inl P (onlyS P SSha7) noL fNew) FSha1))
theorem FSha2_ok : LOk Tryz.prog (FSha2 Tryz.prog Tryz.f359 Tryz.f358) :=
  addF_ok (addT_ok (addT_ok FSha1_ok (by kernel_rfl) (inl_ok (onlyS_ok SSha7_ok) follows Tryz.func358 (by kernel_rfl) (by kernel_rfl) (noloops (by kernel_rfl)))) (by kernel_rfl) (trimE_ok (inl_ok (both_ok SSha7_ok FSha1_ok) follows Tryz.func359 (by kernel_rfl) (by kernel_rfl) (noloops (by kernel_rfl))))) (by kernel_rfl) fSum_ok
set_option maxRecDepth 100000 in
theorem of_run (s : ByteArray) : runV Tryz.prog (both Tryz.prog SSha7 (FSha2 Tryz.prog Tryz.f359 Tryz.f358) [416, 359, 362, 358]) noL Tryz.f356 [.string s] = .chk (0 + s.size ≤ 9223372036854775807) (.need ((ba (restA (ByteArray.mk #[] ++ s).data.toList)).size < 64 ∧ (0 : Int) ≤ IntKind.i64.wrap ((0 : Int) + (↑s.size : Int)) ∧ IntKind.i64.wrap ((0 : Int) + (↑s.size : Int)) ≤ (1099511627776 : Int)) (.leaf (Value.string (ba (txt (foldA (foldA (H8.mk (1779033703 : Int) (3144134277 : Int) (1013904242 : Int) (2773480762 : Int) (1359893119 : Int) (2600822924 : Int) (528734635 : Int) (1541459225 : Int)) (Array.mk ((Array.mk []).toList ++ s.1.toList)).toList) ((ba (restA (ByteArray.mk #[] ++ s).data.toList)).1.toList ++ tail (ba (restA (Array.mk ((Array.mk []).toList ++ s.1.toList)).toList)).size (IntKind.i64.wrap ((0 : Int) + (↑s.size : Int))).toNat))))))) := by kernel_rfl
theorem sha_Of (s : ByteArray) (hs : s.size ≤ 1099511627776) (w : World) : Calls Tryz.prog 356 #[.string s] w fun e w' => e = .returned (.string (shaOf s)) ∧ Below w.heap.size w w' := by
  refine calls_runV (both_ok SSha7_ok FSha2_ok) follows Tryz.func356 (by kernel_rfl) (by kernel_rfl) (noloops (by kernel_rfl)) (of_run s) ?_ w
  have hw : IntKind.i64.wrap (0 + (s.size : Int)) = (s.size : Int) := by rw [w64 _ (by omega) (by omega)]; omega
  have h0 : (ByteArray.mk #[] ++ s).data.toList = s.data.toList := by rw [ByteArray.data_append]; simp
  have hr := restA_length s.data.toList
  refine ⟨by omega, ⟨?_, by rw [hw]; omega, by rw [hw]; omega⟩, ?_⟩
  · rw [h0, ba_len, hr]; omega
  · show Value.string (ba (txt (foldA (foldA H0 (ByteArray.mk #[] ++ s).data.toList) (restA (ByteArray.mk #[] ++ s).data.toList ++ tail (ba (restA (ByteArray.mk #[] ++ s).data.toList)).size (IntKind.i64.wrap (0 + (s.size : Int))).toNat)))) = _
    rw [h0, hw, ba_len, Int.toNat_natCast, show s.size = s.data.toList.length by simp, sum_pieces]
    rfl
def hvs (h : H8) : List Value := [.int .u32 h.a, .int .u32 h.b, .int .u32 h.c, .int .u32 h.d, .int .u32 h.e, .int .u32 h.f, .int .u32 h.g, .int .u32 h.h]
def tPad : List Value → Option (List Prop × Value) | [.string s] => some ([s.size ≤ 1000000000000], .string (ba (s.data.toList ++ tail s.size s.size))) | _ => none
def SSha8  : Tab := SSha7
theorem SSha8_ok : TabOk Tryz.prog (SSha8) := SSha7_ok
end Go.Proofs.YtbippdeahoehoaaGreat
namespace Go.Proofs.YtbippdeahoehoaaGreat
open Go.RowKit Sym Sha Go.ChangeShapes Go.WideShapes Go.ChangeMaps
def tShaOf : List Value → Option (List Prop × Value) | [.string s] => some ([s.size ≤ 1000000000000], .string (shaOf s)) | _ => none
def SSha9  : Tab := addS 356 tShaOf <| SSha8
theorem SSha9_ok : TabOk Tryz.prog (SSha9) := by
  refine addS_ok (SSha8_ok) (by kernel_rfl) ?_
  · (intro xs p v h hp w; unfold tShaOf at h; (split at h) <;> first | (cases h; done) | (simp only [Option.some.injEq, Prod.mk.injEq] at h; obtain ⟨rfl, rfl⟩ := h; exact sha_Of _ (Nat.le_trans (hp _ (List.mem_cons_self ..)) (by decide)) w))
end Go.Proofs.YtbippdeahoehoaaGreat
namespace Go.Proofs.YtbippdeahoehoaaGreat
open Go.RowKit Sym Sha Go.ChangeShapes Go.WideShapes Go.ChangeMaps
theorem ndt {p : Prop} [Decidable p] (h : (!decide p) = true) (k : p) : False := by simp [k] at h
theorem ndf {p : Prop} [Decidable p] (h : (!decide p) = false) : p := by simpa using h
theorem cat_data (g : Nat → ByteArray) (i : Nat) : (catR g (i + 1)).data.toList = (catR g i).data.toList ++ (g i).data.toList := by
  show (catR g i ++ g i).data.toList = _
  rw [ByteArray.data_append]; simp
end Go.Proofs.YtbippdeahoehoaaGreat
namespace Go.Proofs.YtbippdeahoehoaaGreat
open Go.RowKit Sym Sha Go.ChangeShapes Go.WideShapes Go.ChangeMaps
def FMac1 (P : Program) (fw f1 fAdd fNew : Func) : LTab := addT 361 (inl P (onlyS P noS) noL fw) (addT 417 (inl P (onlyS P noS) noL f1) (FSha2 P fAdd fNew))
theorem FMac1_ok : LOk Tryz.prog (FMac1 Tryz.prog Tryz.f361 Tryz.f417 Tryz.f359 Tryz.f358) :=
  addT_ok (addT_ok FSha2_ok (by kernel_rfl) (inl_ok (onlyS_ok noS_ok) follows Tryz.func417 (by kernel_rfl) (by kernel_rfl) (noloops (by kernel_rfl)))) (by kernel_rfl) (inl_ok (onlyS_ok noS_ok) follows Tryz.func361 (by kernel_rfl) (by kernel_rfl) (noloops (by kernel_rfl)))
abbrev CM (P : Program) (S : Tab) (fw f1 fAdd fNew : Func) : Cfg := both P S (FMac1 P fw f1 fAdd fNew) [416, 359, 362, 358, 361, 417]
theorem CM_ok {S : Tab} (h : TabOk Tryz.prog S) : CfgOk Tryz.prog (CM Tryz.prog S Tryz.f361 Tryz.f417 Tryz.f359 Tryz.f358) := both_ok h FMac1_ok
def stT (n : Int) (m : Nat) (xs : List Value) (i : Int) : St := ⟨[(1, some (.clo (.func 417) [] [.ptr 0 0])), (5, some (.ref 1)), (10, some (.ref 1)), (11, some (.v (.int .i64 m))), (12, some (.v (.int .i64 i)))], [.own [.v (.int .u8 n)], .vec true noGrow 1 m xs]⟩
set_option maxRecDepth 100000 in
theorem stT_round (n : Int) (m : Nat) (xs : List Value) (i : Int) : roundM Tryz.prog (CM Tryz.prog noS Tryz.f361 Tryz.f417 Tryz.f359 Tryz.f358) noL 26 0 (loopAt Tryz.f360 0) 2 [1, 5, 10, 11, 12] [] [] (stT n m xs i) = .ite (decide (i < (↑m : Int))) (.chk ((0 : Int) ≤ i ∧ i < (↑m : Int)) (.chk (i.toNat < m) (.chk (List.take 1 (List.drop (i.toNat * 1 + 0) xs) = [Value.int IntKind.u8 (intV (cellAt xs (i.toNat * 1 + 0)))]) (.chk ((0 : Int) ≤ i ∧ i < (↑m : Int)) (.chk (i.toNat < m) (.leaf (Ex.normal, St.mk [(1, some (SV.clo (Fn.func 417) [] [.ptr 0 0])), (5, some (SV.ref 1)), (10, some (SV.ref 1)), (11, some (.v (.int .i64 (↑m : Int)))), (12, some (.v (.int .i64 (IntKind.i64.wrap (i + (1 : Int))))))] [.own [.v (.int .u8 n)], Blk.vec true 1000000007 1 m (List.take (i.toNat * 1 + 0) xs ++ [Value.int IntKind.u8 (IntKind.u8.wrap (↑(Nat.bitwise bne (intV (cellAt xs (i.toNat * 1 + 0)) % (256 : Int)).toNat (n % (256 : Int)).toNat) : Int))] ++ List.drop (i.toNat * 1 + 0 + 1) xs)]))))))) (.leaf (Ex.exit 0, St.mk [(1, some (SV.clo (Fn.func 417) [] [.ptr 0 0])), (5, some (SV.ref 1)), (10, some (SV.ref 1)), (11, some (.v (.int .i64 (↑m : Int)))), (12, some (.v (.int .i64 i)))] [.own [.v (.int .u8 n)], Blk.vec true 1000000007 1 m xs])) := by kernel_rfl
def stS (a b : ByteArray) (z : Int) (i : Int) : St := ⟨[(0, some (.v (.string a))), (1, some (.v (.string b))), (5, some (.v (.int .u8 z))), (13, some (.v (.int .i64 a.size))), (14, some (.v (.int .i64 i)))], []⟩
set_option maxRecDepth 100000 in
theorem stS_round (a b : ByteArray) (z : Int) (i : Int) : roundM Tryz.prog (onlyS Tryz.prog noS) noL 29 0 (loopAt Tryz.f421 0) 0 [0, 1, 5, 13, 14] [] [] (stS a b z i) = .ite (decide (i < (↑a.size : Int))) (.chk ((0 : Int) ≤ i ∧ i < (↑a.size : Int)) (.chk ((0 : Int) ≤ i ∧ i < (↑b.size : Int)) (.leaf (Ex.normal, St.mk [(0, some (.v (.string a))), (1, some (.v (.string b))), (5, some (.v (.int .u8 (IntKind.u8.wrap (↑(Nat.bitwise or (z % (256 : Int)).toNat (IntKind.u8.wrap (↑(Nat.bitwise bne (byteAt a i % (256 : Int)).toNat (byteAt b i % (256 : Int)).toNat) : Int) % (256 : Int)).toNat) : Int))))), (13, some (.v (.int .i64 (↑a.size : Int)))), (14, some (.v (.int .i64 (IntKind.i64.wrap (i + (1 : Int))))))] [])))) (.leaf (Ex.exit 0, St.mk [(0, some (.v (.string a))), (1, some (.v (.string b))), (5, some (.v (.int .u8 z))), (13, some (.v (.int .i64 (↑a.size : Int)))), (14, some (.v (.int .i64 i)))] [])) := by kernel_rfl
theorem u8_wrap (n : Nat) (h : n < 256) : IntKind.u8.wrap (n : Int) = n := by simp only [IntKind.wrap, IntKind.bits, IntKind.signed]; simp; omega
theorem xor8 (x n : UInt8) : IntKind.u8.wrap ((Nat.bitwise bne (((x.toNat : Nat) : Int) % 256).toNat (((n.toNat : Nat) : Int) % 256).toNat : Nat) : Int) = (((x ^^^ n).toNat : Nat) : Int) := by
  have hx := x.toNat_lt
  have hn := n.toNat_lt
  rw [show (((x.toNat : Nat) : Int) % 256).toNat = x.toNat by omega, show (((n.toNat : Nat) : Int) % 256).toNat = n.toNat by omega]
  show IntKind.u8.wrap ((x.toNat ^^^ n.toNat : Nat) : Int) = _
  rw [← UInt8.toNat_xor]
  exact u8_wrap _ (UInt8.toNat_lt _)
theorem or8 (x n : UInt8) : IntKind.u8.wrap ((Nat.bitwise or (((x.toNat : Nat) : Int) % 256).toNat (((n.toNat : Nat) : Int) % 256).toNat : Nat) : Int) = (((x ||| n).toNat : Nat) : Int) := by
  have hx := x.toNat_lt
  have hn := n.toNat_lt
  rw [show (((x.toNat : Nat) : Int) % 256).toNat = x.toNat by omega, show (((n.toNat : Nat) : Int) % 256).toNat = n.toNat by omega]
  show IntKind.u8.wrap ((x.toNat ||| n.toNat : Nat) : Int) = _
  rw [← UInt8.toNat_or]
  exact u8_wrap _ (UInt8.toNat_lt _)
theorem bytesV_map (l : List UInt8) : bytesV l = (l.map fun b => (b.toNat : Int)).map (Value.int .u8) := by unfold bytesV; rw [List.map_map]; rfl
theorem bytes_at (l : List UInt8) (j : Nat) (h : j < l.length) : ((bytesV l).drop j).take 1 = [.int .u8 (intV (cellAt (bytesV l) j))] ∧ intV (cellAt (bytesV l) j) = ((l.getD j 0).toNat : Int) := by
  rw [bytesV_map]
  have := nums_at .u8 (l.map fun b => (b.toNat : Int)) j (by simpa using h)
  refine ⟨this.1, this.2.trans ?_⟩
  simp [nth, List.getD_eq_getElem?_getD, h]
theorem strOf_bytesV (l : List UInt8) : Sym.strOf (bytesV l) = l := by
  unfold Sym.strOf bytesV
  rw [List.map_map]
  conv => rhs; rw [← List.map_id l]
  apply List.map_congr_left
  intro b _
  show UInt8.ofNat ((b.toNat : Int)).toNat = b
  rw [Int.toNat_natCast]; exact UInt8.ofNat_toNat
def turnI (n : UInt8) (l : List UInt8) (i : Nat) : List UInt8 := Mac.turn n (l.take i) ++ l.drop i
theorem turnI_length (n : UInt8) (l : List UInt8) (i : Nat) : (turnI n l i).length = l.length := by simp [turnI, Mac.turn]; omega
theorem turnI_get (n : UInt8) (l : List UInt8) (i : Nat) (h : i < l.length) : (turnI n l i).getD i 0 = l[i] := by
  unfold turnI
  have : (Mac.turn n (l.take i)).length = i := by simp only [Mac.turn, List.length_map, List.length_take]; omega
  rw [List.getD_eq_getElem?_getD, List.getElem?_append_right (by omega)]
  rw [this]; simp [h]
theorem turnI_succ (n : UInt8) (l : List UInt8) (i : Nat) (h : i < l.length) : (bytesV (turnI n l i)).take i ++ [Value.int .u8 (((l[i] ^^^ n).toNat : Nat) : Int)] ++ (bytesV (turnI n l i)).drop (i + 1) = bytesV (turnI n l (i + 1)) := by
  have e1 : (Mac.turn n (l.take i)).length = i := by simp [Mac.turn]; omega
  have e2 : (turnI n l i).take i = Mac.turn n (l.take i) := by unfold turnI; rw [List.take_left' e1]
  have e3 : (turnI n l i).drop (i + 1) = l.drop (i + 1) := by
    unfold turnI
    rw [List.drop_append, List.drop_of_length_le (by omega), e1, List.drop_drop, List.nil_append]
    congr 1; omega
  unfold bytesV
  rw [← List.map_take, ← List.map_drop, e2, e3]
  unfold turnI
  rw [List.take_succ_eq_append_getElem h]
  simp only [Mac.turn, List.map_append, List.map_cons, List.map_nil, List.append_assoc]
theorem stT_step (n : UInt8) (l : List UInt8) (hl : l.length ≤ 9223372036854775807) : ∀ i : Nat, i ≤ l.length → i ≠ l.length → (roundM Tryz.prog (CM Tryz.prog noS Tryz.f361 Tryz.f417 Tryz.f359 Tryz.f358) noL 26 0 (loopAt Tryz.f360 0) 2 [1, 5, 10, 11, 12] [] [] (stT n.toNat l.length (bytesV (turnI n l i)) (i : Nat))).ok fun r => r.1 = .normal ∧ ∃ j, j ≤ l.length ∧ l.length - j < l.length - i ∧ r.2 = stT n.toNat l.length (bytesV (turnI n l j)) (j : Nat) := by
  intro i hi hne
  have hlt : i < l.length := by omega
  rw [stT_round]
  simp only [T.ok, Int.toNat_natCast, Nat.mul_one, Nat.add_zero]
  have hb := bytes_at (turnI n l i) i (by rw [turnI_length]; omega)
  rw [turnI_get n l i hlt] at hb
  refine ⟨fun _ => ⟨by omega, by omega, hb.1, by omega, by omega, by first | rfl | trivial, i + 1, by omega, by omega, ?_⟩, fun h => by simp at h; omega⟩
  rw [hb.2, xor8, turnI_succ n l i hlt, w64 ((i : Int) + 1) (by omega) (by omega)]
  rfl
def LTurned (P : Program) (C : Cfg) (fn : Func) (n : UInt8) (l : List UInt8) : Nat → St → Option (T (Ex × St)) :=
  addL 0 (fun st => .need (st.H.length = 2) (.need (st.tidy 2 [1, 5, 10, 11, 12] [] [] = stT n.toNat l.length (bytesV (turnI n l 0)) (0 : Nat)) ((roundM P C noL 26 0 (loopAt fn 0) 2 [1, 5, 10, 11, 12] [] [] (closeAt [] (stT n.toNat l.length (bytesV (turnI n l l.length)) (l.length : Nat)))).bind (lastX 0)))) noL
set_option maxRecDepth 100000 in
theorem turned_run (z : Int) (n : UInt8) (s : ByteArray) : runF Tryz.prog (CM Tryz.prog noS Tryz.f361 Tryz.f417 Tryz.f359 Tryz.f358) (LTurned Tryz.prog (CM Tryz.prog noS Tryz.f361 Tryz.f417 Tryz.f359 Tryz.f358) Tryz.f360 n s.data.toList) Tryz.f360 (Tryz.f360.body.getD .skip) [.v (.string s), .clo (.func 417) [] [.ptr 0 0]] [.own [.v (.int .u8 z)]] = .chk (s.size ≤ 9223372036854775807) (.need (2 = 2) (.need (St.mk [(1, some (SV.clo (Fn.func 417) [] [.ptr 0 0])), (5, some (SV.ref 1)), (10, some (SV.ref 1)), (11, some (.v (.int .i64 (↑s.size : Int)))), (12, some (.v (.int .i64 0)))] [.own [.v (.int .u8 z)], Blk.vec true 1000000007 1 s.size (bytesV s.1.toList)] = stT (↑n.toNat : Int) s.1.toList.length (bytesV (turnI n s.1.toList 0)) (0 : Int)) (.ite (decide ((↑s.1.toList.length : Int) < (↑s.1.toList.length : Int))) (.chk ((0 : Int) ≤ (↑s.data.toList.length : Int) ∧ (↑s.data.toList.length : Int) < (↑s.data.toList.length : Int)) (.chk ((↑s.1.toList.length : Int).toNat < s.1.toList.length) (.chk (List.take 1 (List.drop ((↑s.1.toList.length : Int).toNat * 1 + 0) (bytesV (turnI n s.1.toList s.1.toList.length))) = [Value.int IntKind.u8 (intV (cellAt (bytesV (turnI n s.1.toList s.1.toList.length)) ((↑s.1.toList.length : Int).toNat * 1 + 0)))]) (.chk ((0 : Int) ≤ (↑s.data.toList.length : Int) ∧ (↑s.data.toList.length : Int) < (↑s.data.toList.length : Int)) (.chk ((↑s.1.toList.length : Int).toNat < s.1.toList.length) (T.stuck 39)))))) (.chk (bytesV (turnI n s.1.toList s.1.toList.length) = bytesV (Sym.strOf (bytesV (turnI n s.1.toList s.1.toList.length)))) (.leaf (.v (.string (ByteArray.mk (Array.mk (Sym.strOf (bytesV (turnI n s.1.toList s.1.toList.length)))))), [.own [.v (.int .u8 (↑n.toNat : Int))], Blk.vec true 1000000007 1 s.1.toList.length (bytesV (turnI n s.1.toList s.1.toList.length))])))))) := by kernel_rfl
def fTurned : List SV → List Blk → Option (T (SV × List Blk))
  | [.v (.string s), .clo (.func f) [] [.ptr 0 0]], [.own [.v (.int .u8 z)]] => bif Nat.beq f 417 then
    some (.need (s.size ≤ 9223372036854775807 ∧ 0 ≤ z ∧ z < 256) (.leaf (.v (.string (ba (Mac.turn (UInt8.ofNat z.toNat) s.data.toList))), [.own [.v (.int .u8 z)]]))) else none
  | _, _ => none
set_option maxRecDepth 100000 in
theorem fTurned_ok : EntryOk Tryz.prog 360 fTurned := by
  intro ss H t ht bs B w vs hm hv Qs hq
  unfold fTurned at ht
  split at ht
  · rename_i s f z
    cases hf : Nat.beq f 417
    · rw [hf] at ht; cases ht
    · rw [hf, cond_true, Option.some.injEq] at ht
      have hf := Nat.eq_of_beq_eq_true hf
      subst hf
      subst ht
      obtain ⟨⟨p1, p2, p3⟩, hq⟩ := hq
      have hz : z = ((UInt8.ofNat z.toNat).toNat : Int) := by rw [UInt8.toNat_ofNat']; omega
      generalize UInt8.ofNat z.toNat = n at hq hz
      have hsz : s.data.toList.length ≤ 9223372036854775807 := by rw [show s.data.toList.length = s.size by simp]; exact p1
      refine treeT_ok (CM_ok noS_ok) follows Tryz.func360 (by kernel_rfl) (by kernel_rfl) (one_loop (b := loopAt Tryz.f360 0) (id := 0) (by kernel_rfl) fun st t h => ?_) (turned_run z n s) (fun Qs h => ?_) hm hv hq
      · rw [addL_same h]
        exact loop_cnt (CM_ok noS_ok) follows (by kernel_rfl) (noloops (by kernel_rfl)) (fun i : Nat => i ≤ s.data.toList.length) (fun i => stT n.toNat s.data.toList.length (bytesV (turnI n s.data.toList i)) (i : Nat)) (fun i => s.data.toList.length - i) 2 [1, 5, 10, 11, 12] [] [] s.data.toList.length [] (stT_step n s.data.toList hsz) (Nat.zero_le _)
      · have e : turnI n s.data.toList s.data.toList.length = Mac.turn n s.data.toList := by unfold turnI; rw [List.take_length, List.drop_length, List.append_nil]
        refine ⟨p1, rfl, ?_, (fun e => ?_), fun _ => ?_⟩
        · subst hz; rfl
        · have := of_decide_eq_true e; omega
        · refine ⟨by rw [strOf_bytesV], ?_⟩
          rw [e, strOf_bytesV, ← hz]
          exact h
  · cases ht
def apart (a b : ByteArray) : Nat → UInt8
  | 0 => 0
  | i + 1 => apart a b i ||| (a.data.toList.getD i 0 ^^^ b.data.toList.getD i 0)
theorem apart_zero (a b : ByteArray) : ∀ i, apart a b i = 0 ↔ ∀ j, j < i → a.data.toList.getD j 0 = b.data.toList.getD j 0
  | 0 => ⟨fun _ j h => absurd h (Nat.not_lt_zero _), fun _ => rfl⟩
  | i + 1 => by
    show (apart a b i ||| _) = 0 ↔ _
    rw [UInt8.or_eq_zero_iff, UInt8.xor_eq_zero_iff, apart_zero a b i]
    constructor
    · rintro ⟨h1, h2⟩ j hj
      by_cases e : j = i
      · subst e; exact h2
      · exact h1 j (by omega)
    · intro h
      exact ⟨fun j hj => h j (by omega), h i (by omega)⟩
theorem apart_eq (a b : ByteArray) (h : a.size = b.size) : apart a b a.size = 0 ↔ a = b := by
  rw [apart_zero]
  constructor
  · intro hh
    apply ByteArray.ext
    apply Array.toList_inj.1
    apply List.ext_getElem
    · simpa using h
    · intro i h1 h2
      have := hh i (by simpa using h1)
      rw [List.getD_eq_getElem?_getD, List.getD_eq_getElem?_getD, List.getElem?_eq_getElem h1, List.getElem?_eq_getElem h2] at this
      exact this
  · rintro rfl j _; rfl
theorem stS_step (a b : ByteArray) (hs : a.size ≤ maxLen) (hab : a.size = b.size) : ∀ i : Nat, i ≤ a.size → i ≠ a.size → (roundM Tryz.prog (onlyS Tryz.prog noS) noL 29 0 (loopAt Tryz.f421 0) 0 [0, 1, 5, 13, 14] [] [] (stS a b (apart a b i).toNat (i : Nat))).ok fun r => r.1 = .normal ∧ ∃ j, j ≤ a.size ∧ a.size - j < a.size - i ∧ r.2 = stS a b (apart a b j).toNat (j : Nat) := by
  intro i hi hne
  unfold maxLen at hs
  have hlt : i < a.size := by omega
  rw [stS_round]
  refine ⟨fun _ => ⟨by omega, by omega, rfl, i + 1, by omega, by omega, ?_⟩, fun h => by simp at h; omega⟩
  have e : ∀ s : ByteArray, byteAt s (i : Nat) = (((s.data.toList.getD i 0).toNat : Nat) : Int) := fun s => by unfold byteAt; rw [Int.toNat_natCast]
  rw [e a, e b, xor8, or8, w64 ((i : Int) + 1) (by omega) (by omega)]
  rfl
def LSame (P : Program) (S : Tab) (fn : Func) (a b : ByteArray) : Nat → St → Option (T (Ex × St)) :=
  addL 0 (fun st => .need (a.size ≤ maxLen ∧ a.size = b.size) (.need (st.H.length = 0) (.need (st.tidy 0 [0, 1, 5, 13, 14] [] [] = stS a b (apart a b 0).toNat (0 : Nat)) ((roundM P (onlyS P S) noL 29 0 (loopAt fn 0) 0 [0, 1, 5, 13, 14] [] [] (closeAt [] (stS a b (apart a b a.size).toNat (a.size : Nat)))).bind (lastX 0))))) noL
set_option maxRecDepth 100000 in
theorem same_run (a b : ByteArray) : runV Tryz.prog (onlyS Tryz.prog noS) (LSame Tryz.prog noS Tryz.f421 a b) Tryz.f421 [.string a, .string b] = .ite (!decide ((↑a.size : Int) = (↑b.size : Int))) (.leaf (Value.bool false)) (.need (a.size ≤ maxLen ∧ a.size = b.size) (.need (0 = 0) (.need (St.mk [(0, some (.v (.string a))), (1, some (.v (.string b))), (5, some (.v (.int .u8 0))), (13, some (.v (.int .i64 (↑a.size : Int)))), (14, some (.v (.int .i64 0)))] [] = stS a b (↑(apart a b 0).toNat : Int) (0 : Int)) (.ite (decide ((↑a.size : Int) < (↑a.size : Int))) (.chk ((0 : Int) ≤ (↑a.size : Int) ∧ (↑a.size : Int) < (↑a.size : Int)) (.chk ((0 : Int) ≤ (↑a.size : Int) ∧ (↑a.size : Int) < (↑b.size : Int)) (T.stuck 39))) (.leaf (Value.bool (decide ((↑(apart a b a.size).toNat : Int) = (0 : Int))))))))) := by kernel_rfl
theorem mac_Same (a b : ByteArray) (hs : a.size ≤ maxLen) (w : World) : Calls Tryz.prog 421 #[.string a, .string b] w fun e w' => e = .returned (.bool (decide (a = b))) ∧ Below w.heap.size w w' := by
  refine calls_runV (onlyS_ok noS_ok) follows Tryz.func421 (by kernel_rfl) (by kernel_rfl) (one_loop (b := loopAt Tryz.f421 0) (id := 0) (by kernel_rfl) fun st t h => ?_) (same_run a b) ?_ w
  · rw [addL_same h]
    exact .need fun ⟨h1, h2⟩ => loop_cnt (onlyS_ok noS_ok) follows (by kernel_rfl) (noloops (by kernel_rfl)) (fun i : Nat => i ≤ a.size) (fun i => stS a b (apart a b i).toNat (i : Nat)) (fun i => a.size - i) 0 [0, 1, 5, 13, 14] [] [] a.size [] (stS_step a b h1 h2) (Nat.zero_le _)
  · have hz : (((apart a b a.size).toNat : Nat) : Int) = 0 ↔ apart a b a.size = 0 := by
      rw [Int.natCast_eq_zero, ← UInt8.toNat_inj]; rfl
    refine ⟨fun h => ?_, fun h => ⟨⟨hs, ?_⟩, rfl, rfl, (fun h => ?_), fun _ => ?_⟩⟩
    · have hn : ¬ a = b := fun e => ndt h (by rw [e])
      show Value.bool false = _
      rw [decide_eq_false hn]
    · have := ndf h; omega
    · have := of_decide_eq_true h; omega
    · have hab : a.size = b.size := by have := ndf h; omega
      show Value.bool _ = _
      congr 1
      rw [decide_eq_decide, hz, apart_eq a b hab]
def turned (n : UInt8) (s : ByteArray) (i : Nat) : ByteArray := ba (Mac.turn n (s.data.toList.take i))
def tTurned06 : List Value → Option (List Prop × Value) | [.string s, .int .u8 z] => some ([s.size ≤ maxLen ∧ 0 ≤ z ∧ z < 256], .string (ba (Mac.turn (UInt8.ofNat z.toNat) s.data.toList))) | _ => none
def tSame : List Value → Option (List Prop × Value) | [.string a, .string b] => some ([a.size ≤ maxLen], .bool (decide (a = b))) | _ => none
def SMac1  : Tab := addS 421 tSame <| SSha9
theorem SMac1_ok : TabOk Tryz.prog (SMac1) := by
  refine addS_ok (SSha9_ok) (by kernel_rfl) ?_
  · (intro xs p v h hp w; unfold tSame at h; (split at h) <;> first | (cases h; done) | (simp only [Option.some.injEq, Prod.mk.injEq] at h; obtain ⟨rfl, rfl⟩ := h; exact mac_Same _ _ (hp _ (List.mem_cons_self ..)) w))
theorem ba_app (x : List UInt8) (y : ByteArray) : (ba x ++ y).data.toList = x ++ y.data.toList := by rw [ByteArray.data_append]; simp [ba]
theorem app_nil (k : ByteArray) : k ++ ba [] = k := by apply ByteArray.ext; rw [ByteArray.data_append]; simp [ba]
theorem nil_app (k : ByteArray) : ba [] ++ k = k := by apply ByteArray.ext; rw [ByteArray.data_append]; simp [ba]
def padK (k : ByteArray) : ByteArray := k ++ ba (List.replicate (64 - k.size) 0)
theorem padK_size (k : ByteArray) (h : k.size ≤ 64) : (padK k).size = 64 := by unfold padK; rw [ByteArray.size_append, ba_len, List.length_replicate]; omega
def keyB (key : ByteArray) : ByteArray := if 64 < key.size then shaOf key else key
theorem keyB_size (key : ByteArray) : (keyB key).size ≤ 64 := by
  unfold keyB
  by_cases h : 64 < key.size
  · simp only [if_pos h, shaOf_size]; omega
  · simp only [if_neg h]; omega
theorem padK_key (key : ByteArray) : (padK (keyB key)).data.toList = Mac.key64 key.data.toList := by
  unfold padK keyB Mac.key64
  have hs : key.data.toList.length = key.size := by simp
  by_cases h : 64 < key.size
  · have hz := shaOf_size key
    have hl := Sha.shaL_length key.data.toList
    simp only [hs, if_pos h, hz, hl]
    rw [ByteArray.data_append]; simp [ba, shaOf]
  · simp only [hs, if_neg h]
    rw [ByteArray.data_append]; simp [ba]
theorem turn_length (n : UInt8) (l : List UInt8) : (Mac.turn n l).length = l.length := by simp [Mac.turn]
theorem mac_val (key all : ByteArray) {K : List UInt8} (hK : K = Mac.key64 key.data.toList) : shaOf (ba (Mac.turn 92 K) ++ shaOf (ba (Mac.turn 54 K) ++ all)) = macOf key all := by
  subst hK
  unfold macOf Mac.macL
  show ba (shaL (ba _ ++ shaOf _).data.toList) = _
  rw [ba_app]
  show ba (shaL (_ ++ shaL (ba _ ++ all).data.toList)) = _
  rw [ba_app]
  rfl
def tMac06 : List Value → Option (List Prop × Value) | [.string k, .string a] => some ([k.size ≤ 1000000000000 ∧ a.size ≤ 100000000000], .string (macOf k a)) | _ => none
def SMac2  : Tab := SMac1
theorem SMac2_ok : TabOk Tryz.prog (SMac2) := SMac1_ok
def FMac2 (P : Program) (fw f1 fAdd fNew : Func) : LTab := addF 360 fTurned (FMac1 P fw f1 fAdd fNew)
theorem FMac2_ok : LOk Tryz.prog (FMac2 Tryz.prog Tryz.f361 Tryz.f417 Tryz.f359 Tryz.f358) := addF_ok FMac1_ok (by kernel_rfl) fTurned_ok
abbrev CN (P : Program) (S : Tab) (fw f1 fAdd fNew : Func) : Cfg := both P S (FMac2 P fw f1 fAdd fNew) [416, 359, 362, 358, 361, 417, 360]
theorem CN_ok {S : Tab} (h : TabOk Tryz.prog S) : CfgOk Tryz.prog (CN Tryz.prog S Tryz.f361 Tryz.f417 Tryz.f359 Tryz.f358) := both_ok h FMac2_ok
def stM (key : ByteArray) (n : Nat) (g : Nat → ByteArray) (h : H8) (r : ByteArray) (m : Int) (i : Int) : St := ⟨[(0, some (.v (.string key))), (5, some (.ptr 1 0)), (25, some (.ref 0)), (26, some (.v (.int .i64 n))), (27, some (.v (.int .i64 i)))], [.row n 1 (fun i _ => .string (g i)), .own (stC h r m), .own [.v (.int .u8 54)]]⟩
set_option maxRecDepth 100000 in
theorem stM_round (key : ByteArray) (n : Nat) (g : Nat → ByteArray) (h : H8) (r : ByteArray) (m : Int) (i : Int) : roundM Tryz.prog (CN Tryz.prog SMac2 Tryz.f361 Tryz.f417 Tryz.f359 Tryz.f358) noL 42 0 (loopAt Tryz.f260 0) 3 [0, 5, 25, 26, 27] [] [] (stM key n g h r m i) = .ite (decide (i < (↑n : Int))) (.chk ((0 : Int) ≤ i ∧ i < (↑n : Int)) (.chk (i.toNat < n) (.chk (r.size + (g i.toNat).size ≤ 9223372036854775807) (.leaf (Ex.normal, St.mk [(0, some (.v (.string key))), (5, some (.ptr 1 0)), (25, some (SV.ref 0)), (26, some (.v (.int .i64 (↑n : Int)))), (27, some (.v (.int .i64 (IntKind.i64.wrap (i + (1 : Int))))))] [Blk.row n 1 fun i x => Value.string (g i), .own [.v (.int .u32 (foldA h (Array.mk (r.1.toList ++ (g i.toNat).1.toList)).toList).a), .v (.int .u32 (foldA h (Array.mk (r.1.toList ++ (g i.toNat).1.toList)).toList).b), .v (.int .u32 (foldA h (Array.mk (r.1.toList ++ (g i.toNat).1.toList)).toList).c), .v (.int .u32 (foldA h (Array.mk (r.1.toList ++ (g i.toNat).1.toList)).toList).d), .v (.int .u32 (foldA h (Array.mk (r.1.toList ++ (g i.toNat).1.toList)).toList).e), .v (.int .u32 (foldA h (Array.mk (r.1.toList ++ (g i.toNat).1.toList)).toList).f), .v (.int .u32 (foldA h (Array.mk (r.1.toList ++ (g i.toNat).1.toList)).toList).g), .v (.int .u32 (foldA h (Array.mk (r.1.toList ++ (g i.toNat).1.toList)).toList).h), .v (.string (ba (restA (Array.mk (r.1.toList ++ (g i.toNat).1.toList)).toList))), .v (.int .i64 (IntKind.i64.wrap (m + (↑(g i.toNat).size : Int))))], .own [.v (.int .u8 54)]]))))) (.leaf (Ex.exit 0, St.mk [(0, some (.v (.string key))), (5, some (.ptr 1 0)), (25, some (SV.ref 0)), (26, some (.v (.int .i64 (↑n : Int)))), (27, some (.v (.int .i64 i)))] [Blk.row n 1 fun i x => Value.string (g i), .own [.v (.int .u32 h.a), .v (.int .u32 h.b), .v (.int .u32 h.c), .v (.int .u32 h.d), .v (.int .u32 h.e), .v (.int .u32 h.f), .v (.int .u32 h.g), .v (.int .u32 h.h), .v (.string r), .v (.int .i64 m)], .own [.v (.int .u8 54)]])) := by kernel_rfl
end Go.Proofs.YtbippdeahoehoaaGreat
namespace Go.Proofs.YtbippdeahoehoaaGreat
open Go.RowKit Sym Sha Go.ChangeShapes Go.WideShapes Go.ChangeMaps
def stMI (key : ByteArray) (n : Nat) (g : Nat → ByteArray) (p : List UInt8) (i : Nat) : St := stM key n g (foldA H0 (p ++ (catR g i).data.toList)) (ba (restA (p ++ (catR g i).data.toList))) ((p.length : Int) + ((catR g i).size : Int)) (i : Int)
theorem stMI_step (key : ByteArray) (n : Nat) (g : Nat → ByteArray) (p : List UInt8) (hn : n ≤ maxLen) (hp : p.length ≤ 64) (hc : (catR g n).size ≤ 100000000000) : ∀ i : Nat, i ≤ n → i ≠ n → (roundM Tryz.prog (CN Tryz.prog SMac2 Tryz.f361 Tryz.f417 Tryz.f359 Tryz.f358) noL 42 0 (loopAt Tryz.f260 0) 3 [0, 5, 25, 26, 27] [] [] (stMI key n g p i)).ok fun r => r.1 = .normal ∧ ∃ j, j ≤ n ∧ n - j < n - i ∧ r.2 = stMI key n g p j := by
  intro i hi hne
  unfold maxLen at hn
  have hlt : i < n := by omega
  have hm := catR_mono g (show i + 1 ≤ n by omega)
  have hsz : (catR g (i + 1)).size = (catR g i).size + (g i).size := by show (catR g i ++ g i).size = _; rw [ByteArray.size_append]
  have hr := restA_length (p ++ (catR g i).data.toList)
  unfold stMI
  rw [stM_round]
  simp only [Int.toNat_natCast]
  have e : (p ++ (catR g i).data.toList) ++ (g i).data.toList = p ++ (catR g (i + 1)).data.toList := by rw [cat_data, List.append_assoc]
  have hw : IntKind.i64.wrap ((p.length : Int) + ((catR g i).size : Int) + ((g i).size : Int)) = (p.length : Int) + ((catR g (i + 1)).size : Int) := by rw [w64 _ (by omega) (by omega)]; omega
  have hw1 : IntKind.i64.wrap ((i : Int) + 1) = ((i + 1 : Nat) : Int) := by rw [w64 _ (by omega) (by omega)]; rfl
  refine ⟨fun _ => ⟨by omega, by omega, ?_, rfl, i + 1, by omega, by omega, ?_⟩, fun h => ?_⟩
  · rw [ba_len, hr]; omega
  · show stM key n g (foldA (foldA H0 (p ++ (catR g i).data.toList)) (restA (p ++ (catR g i).data.toList) ++ (g i).data.toList)) (ba (restA (restA (p ++ (catR g i).data.toList) ++ (g i).data.toList))) (IntKind.i64.wrap ((p.length : Int) + ((catR g i).size : Int) + ((g i).size : Int))) (IntKind.i64.wrap ((i : Int) + 1)) = _
    rw [foldA_append, restA_append, hw, hw1, e]
  · have h := of_decide_eq_false h; omega
def LMac (P : Program) (C : Cfg) (fn : Func) (n : Nat) (g : Nat → ByteArray) (p : List UInt8) : Nat → St → Option (T (Ex × St)) :=
  addL 0 (fun st => withStr st 0 fun key => .need (p.length = 64) (.need (st.H.length = 3) (.need (st.tidy 3 [0, 5, 25, 26, 27] [] [] = stMI key n g p 0) ((roundM P C noL 42 0 (loopAt fn 0) 3 [0, 5, 25, 26, 27] [] [] (closeAt [] (stMI key n g p n))).bind (lastX 0))))) noL
set_option maxRecDepth 100000 in
theorem macOf_run (key : ByteArray) (n : Nat) (g : Nat → ByteArray) (p : List UInt8) : trimT 1 (runF Tryz.prog (CN Tryz.prog SMac2 Tryz.f361 Tryz.f417 Tryz.f359 Tryz.f358) (LMac Tryz.prog (CN Tryz.prog SMac2 Tryz.f361 Tryz.f417 Tryz.f359 Tryz.f358) Tryz.f260 n g p) Tryz.f260 (Tryz.f260.body.getD .skip) [.v (.string key), .ref 0] [.row n 1 fun i _ => .string (g i)]) = .ite (decide ((↑key.size : Int) > (64 : Int))) (.need (key.size ≤ 1000000000000) (.need ((0 : Int) ≤ IntKind.i64.wrap ((64 : Int) - (↑(shaOf key).size : Int)) ∧ IntKind.i64.wrap ((64 : Int) - (↑(shaOf key).size : Int)) ≤ (9223372036854775807 : Int) ∧ (ByteArray.mk #[(0 : UInt8)]).size * (IntKind.i64.wrap ((64 : Int) - (↑(shaOf key).size : Int))).toNat ≤ 140737488355328) (.chk ((shaOf key).size + (ba (Lib.repeatL (Array.mk [UInt8.ofBitVec (BitVec.ofFin (Fin.mk 0 (Nat.mod_lt 0 (BitVec.ofNat._proof_1 8))))]).toList (IntKind.i64.wrap ((64 : Int) - (↑(shaOf key).size : Int))).toNat)).size ≤ 9223372036854775807) (.need ((shaOf key ++ ba (Lib.repeatL (ByteArray.mk #[(0 : UInt8)]).data.toList (IntKind.i64.wrap ((64 : Int) - (↑(shaOf key).size : Int))).toNat)).size ≤ 9223372036854775807 ∧ (0 : Int) ≤ (54 : Int) ∧ (54 : Int) < (256 : Int)) (.chk (0 + (ba (Mac.turn (UInt8.ofBitVec (BitVec.ofFin (Fin.mk 54 (Nat.mod_lt 54 (BitVec.ofNat._proof_1 8))))) (Array.mk ((shaOf key).1.toList ++ (ba (Lib.repeatL (ByteArray.mk #[(0 : UInt8)]).data.toList (IntKind.i64.wrap ((64 : Int) - (↑(shaOf key).size : Int))).toNat)).1.toList)).toList)).size ≤ 9223372036854775807) (.need (p.length = 64) (.need (3 = 3) (.need (St.mk [(0, some (.v (.string (shaOf key ++ ba (Lib.repeatL (Array.mk [UInt8.ofBitVec (BitVec.ofFin (Fin.mk 0 (Nat.mod_lt 0 (BitVec.ofNat._proof_1 8))))]).toList (IntKind.i64.wrap ((64 : Int) - (↑(shaOf key).size : Int))).toNat))))), (5, some (.ptr 1 0)), (25, some (SV.ref 0)), (26, some (.v (.int .i64 (↑n : Int)))), (27, some (.v (.int .i64 0)))] [Blk.row n 1 fun i x => Value.string (g i), .own [.v (.int .u32 (foldA (H8.mk (1779033703 : Int) (3144134277 : Int) (1013904242 : Int) (2773480762 : Int) (1359893119 : Int) (2600822924 : Int) (528734635 : Int) (1541459225 : Int)) (Array.mk ((Array.mk []).toList ++ (ba (Mac.turn (UInt8.ofNat (Int.toNat (54 : Int))) (shaOf key ++ ba (Lib.repeatL (ByteArray.mk #[(0 : UInt8)]).data.toList (IntKind.i64.wrap ((64 : Int) - (↑(shaOf key).size : Int))).toNat)).data.toList)).1.toList)).toList).a), .v (.int .u32 (foldA (H8.mk (1779033703 : Int) (3144134277 : Int) (1013904242 : Int) (2773480762 : Int) (1359893119 : Int) (2600822924 : Int) (528734635 : Int) (1541459225 : Int)) (Array.mk ((Array.mk []).toList ++ (ba (Mac.turn (UInt8.ofNat (Int.toNat (54 : Int))) (shaOf key ++ ba (Lib.repeatL (ByteArray.mk #[(0 : UInt8)]).data.toList (IntKind.i64.wrap ((64 : Int) - (↑(shaOf key).size : Int))).toNat)).data.toList)).1.toList)).toList).b), .v (.int .u32 (foldA (H8.mk (1779033703 : Int) (3144134277 : Int) (1013904242 : Int) (2773480762 : Int) (1359893119 : Int) (2600822924 : Int) (528734635 : Int) (1541459225 : Int)) (Array.mk ((Array.mk []).toList ++ (ba (Mac.turn (UInt8.ofNat (Int.toNat (54 : Int))) (shaOf key ++ ba (Lib.repeatL (ByteArray.mk #[(0 : UInt8)]).data.toList (IntKind.i64.wrap ((64 : Int) - (↑(shaOf key).size : Int))).toNat)).data.toList)).1.toList)).toList).c), .v (.int .u32 (foldA (H8.mk (1779033703 : Int) (3144134277 : Int) (1013904242 : Int) (2773480762 : Int) (1359893119 : Int) (2600822924 : Int) (528734635 : Int) (1541459225 : Int)) (Array.mk ((Array.mk []).toList ++ (ba (Mac.turn (UInt8.ofNat (Int.toNat (54 : Int))) (shaOf key ++ ba (Lib.repeatL (ByteArray.mk #[(0 : UInt8)]).data.toList (IntKind.i64.wrap ((64 : Int) - (↑(shaOf key).size : Int))).toNat)).data.toList)).1.toList)).toList).d), .v (.int .u32 (foldA (H8.mk (1779033703 : Int) (3144134277 : Int) (1013904242 : Int) (2773480762 : Int) (1359893119 : Int) (2600822924 : Int) (528734635 : Int) (1541459225 : Int)) (Array.mk ((Array.mk []).toList ++ (ba (Mac.turn (UInt8.ofNat (Int.toNat (54 : Int))) (shaOf key ++ ba (Lib.repeatL (ByteArray.mk #[(0 : UInt8)]).data.toList (IntKind.i64.wrap ((64 : Int) - (↑(shaOf key).size : Int))).toNat)).data.toList)).1.toList)).toList).e), .v (.int .u32 (foldA (H8.mk (1779033703 : Int) (3144134277 : Int) (1013904242 : Int) (2773480762 : Int) (1359893119 : Int) (2600822924 : Int) (528734635 : Int) (1541459225 : Int)) (Array.mk ((Array.mk []).toList ++ (ba (Mac.turn (UInt8.ofNat (Int.toNat (54 : Int))) (shaOf key ++ ba (Lib.repeatL (ByteArray.mk #[(0 : UInt8)]).data.toList (IntKind.i64.wrap ((64 : Int) - (↑(shaOf key).size : Int))).toNat)).data.toList)).1.toList)).toList).f), .v (.int .u32 (foldA (H8.mk (1779033703 : Int) (3144134277 : Int) (1013904242 : Int) (2773480762 : Int) (1359893119 : Int) (2600822924 : Int) (528734635 : Int) (1541459225 : Int)) (Array.mk ((Array.mk []).toList ++ (ba (Mac.turn (UInt8.ofNat (Int.toNat (54 : Int))) (shaOf key ++ ba (Lib.repeatL (ByteArray.mk #[(0 : UInt8)]).data.toList (IntKind.i64.wrap ((64 : Int) - (↑(shaOf key).size : Int))).toNat)).data.toList)).1.toList)).toList).g), .v (.int .u32 (foldA (H8.mk (1779033703 : Int) (3144134277 : Int) (1013904242 : Int) (2773480762 : Int) (1359893119 : Int) (2600822924 : Int) (528734635 : Int) (1541459225 : Int)) (Array.mk ((Array.mk []).toList ++ (ba (Mac.turn (UInt8.ofNat (Int.toNat (54 : Int))) (shaOf key ++ ba (Lib.repeatL (ByteArray.mk #[(0 : UInt8)]).data.toList (IntKind.i64.wrap ((64 : Int) - (↑(shaOf key).size : Int))).toNat)).data.toList)).1.toList)).toList).h), .v (.string (ba (restA (Array.mk ((Array.mk []).toList ++ (ba (Mac.turn (UInt8.ofNat (Int.toNat (54 : Int))) (shaOf key ++ ba (Lib.repeatL (ByteArray.mk #[(0 : UInt8)]).data.toList (IntKind.i64.wrap ((64 : Int) - (↑(shaOf key).size : Int))).toNat)).data.toList)).1.toList)).toList))), .v (.int .i64 (IntKind.i64.wrap ((0 : Int) + (↑(ba (Mac.turn (UInt8.ofBitVec (BitVec.ofFin (Fin.mk 54 (Nat.mod_lt 54 (BitVec.ofNat._proof_1 8))))) (Array.mk ((shaOf key).1.toList ++ (ba (Lib.repeatL (ByteArray.mk #[(0 : UInt8)]).data.toList (IntKind.i64.wrap ((64 : Int) - (↑(shaOf key).size : Int))).toNat)).1.toList)).toList)).size : Int))))], .own [.v (.int .u8 54)]] = stMI (shaOf key ++ ba (Lib.repeatL (Array.mk [UInt8.ofBitVec (BitVec.ofFin (Fin.mk 0 (Nat.mod_lt 0 (BitVec.ofNat._proof_1 8))))]).toList (IntKind.i64.wrap ((64 : Int) - (↑(shaOf key).size : Int))).toNat)) n g p 0) (.ite (decide ((↑n : Int) < (↑n : Int))) (.chk ((0 : Int) ≤ (↑n : Int) ∧ (↑n : Int) < (↑n : Int)) (.chk ((↑n : Int).toNat < n) (.chk ((ba (restA (p ++ (catR g n).1.toList))).size + (g (↑n : Int).toNat).size ≤ 9223372036854775807) (T.stuck 39)))) (.need ((shaOf key ++ ba (Lib.repeatL (ByteArray.mk #[(0 : UInt8)]).data.toList (IntKind.i64.wrap ((64 : Int) - (↑(shaOf key).size : Int))).toNat)).size ≤ 9223372036854775807 ∧ (0 : Int) ≤ (92 : Int) ∧ (92 : Int) < (256 : Int)) (.need ((ba (restA (p ++ (catR g n).data.toList))).size < 64 ∧ (0 : Int) ≤ (↑p.length : Int) + (↑(catR g n).size : Int) ∧ (↑p.length : Int) + (↑(catR g n).size : Int) ≤ (1099511627776 : Int)) (.chk ((ba (Mac.turn (UInt8.ofBitVec (BitVec.ofFin (Fin.mk 92 (Nat.mod_lt 92 (BitVec.ofNat._proof_1 8))))) (Array.mk ((shaOf key).1.toList ++ (ba (Lib.repeatL (ByteArray.mk #[(0 : UInt8)]).data.toList (IntKind.i64.wrap ((64 : Int) - (↑(shaOf key).size : Int))).toNat)).1.toList)).toList)).size + (ba (txt (foldA (foldA (H8.mk (1779033703 : Int) (3144134277 : Int) (1013904242 : Int) (2773480762 : Int) (1359893119 : Int) (2600822924 : Int) (528734635 : Int) (1541459225 : Int)) (p ++ (catR g n).1.toList)) ((ba (restA (p ++ (catR g n).data.toList))).1.toList ++ tail (ba (restA (p ++ (catR g n).1.toList))).size ((↑p.length : Int) + (↑(catR g n).size : Int)).toNat)))).size ≤ 9223372036854775807) (.need ((ba (Mac.turn (UInt8.ofBitVec (BitVec.ofFin (Fin.mk 92 (Nat.mod_lt 92 (BitVec.ofNat._proof_1 8))))) (Array.mk ((shaOf key).1.toList ++ (ba (Lib.repeatL (ByteArray.mk #[(0 : UInt8)]).data.toList (IntKind.i64.wrap ((64 : Int) - (↑(shaOf key).size : Int))).toNat)).1.toList)).toList) ++ ba (txt (foldA (foldA (H8.mk (1779033703 : Int) (3144134277 : Int) (1013904242 : Int) (2773480762 : Int) (1359893119 : Int) (2600822924 : Int) (528734635 : Int) (1541459225 : Int)) (p ++ (catR g n).1.toList)) ((ba (restA (p ++ (catR g n).data.toList))).1.toList ++ tail (ba (restA (p ++ (catR g n).1.toList))).size ((↑p.length : Int) + (↑(catR g n).size : Int)).toNat)))).size ≤ 1000000000000) (.leaf (.v (.string (shaOf (ba (Mac.turn (UInt8.ofBitVec (BitVec.ofFin (Fin.mk 92 (Nat.mod_lt 92 (BitVec.ofNat._proof_1 8))))) (Array.mk ((shaOf key).1.toList ++ (ba (Lib.repeatL (ByteArray.mk #[(0 : UInt8)]).data.toList (IntKind.i64.wrap ((64 : Int) - (↑(shaOf key).size : Int))).toNat)).1.toList)).toList) ++ ba (txt (foldA (foldA (H8.mk (1779033703 : Int) (3144134277 : Int) (1013904242 : Int) (2773480762 : Int) (1359893119 : Int) (2600822924 : Int) (528734635 : Int) (1541459225 : Int)) (p ++ (catR g n).1.toList)) ((ba (restA (p ++ (catR g n).data.toList))).1.toList ++ tail (ba (restA (p ++ (catR g n).1.toList))).size ((↑p.length : Int) + (↑(catR g n).size : Int)).toNat)))))), [Blk.row n 1 fun i x => Value.string (g i)]))))))))))))))) (.need ((0 : Int) ≤ IntKind.i64.wrap ((64 : Int) - (↑key.size : Int)) ∧ IntKind.i64.wrap ((64 : Int) - (↑key.size : Int)) ≤ (9223372036854775807 : Int) ∧ (ByteArray.mk #[(0 : UInt8)]).size * (IntKind.i64.wrap ((64 : Int) - (↑key.size : Int))).toNat ≤ 140737488355328) (.chk (key.size + (ba (Lib.repeatL (Array.mk [UInt8.ofBitVec (BitVec.ofFin (Fin.mk 0 (Nat.mod_lt 0 (BitVec.ofNat._proof_1 8))))]).toList (IntKind.i64.wrap ((64 : Int) - (↑key.size : Int))).toNat)).size ≤ 9223372036854775807) (.need ((key ++ ba (Lib.repeatL (ByteArray.mk #[(0 : UInt8)]).data.toList (IntKind.i64.wrap ((64 : Int) - (↑key.size : Int))).toNat)).size ≤ 9223372036854775807 ∧ (0 : Int) ≤ (54 : Int) ∧ (54 : Int) < (256 : Int)) (.chk (0 + (ba (Mac.turn (UInt8.ofBitVec (BitVec.ofFin (Fin.mk 54 (Nat.mod_lt 54 (BitVec.ofNat._proof_1 8))))) (Array.mk (key.1.toList ++ (ba (Lib.repeatL (ByteArray.mk #[(0 : UInt8)]).data.toList (IntKind.i64.wrap ((64 : Int) - (↑key.size : Int))).toNat)).1.toList)).toList)).size ≤ 9223372036854775807) (.need (p.length = 64) (.need (3 = 3) (.need (St.mk [(0, some (.v (.string (key ++ ba (Lib.repeatL (Array.mk [UInt8.ofBitVec (BitVec.ofFin (Fin.mk 0 (Nat.mod_lt 0 (BitVec.ofNat._proof_1 8))))]).toList (IntKind.i64.wrap ((64 : Int) - (↑key.size : Int))).toNat))))), (5, some (.ptr 1 0)), (25, some (SV.ref 0)), (26, some (.v (.int .i64 (↑n : Int)))), (27, some (.v (.int .i64 0)))] [Blk.row n 1 fun i x => Value.string (g i), .own [.v (.int .u32 (foldA (H8.mk (1779033703 : Int) (3144134277 : Int) (1013904242 : Int) (2773480762 : Int) (1359893119 : Int) (2600822924 : Int) (528734635 : Int) (1541459225 : Int)) (Array.mk ((Array.mk []).toList ++ (ba (Mac.turn (UInt8.ofNat (Int.toNat (54 : Int))) (key ++ ba (Lib.repeatL (ByteArray.mk #[(0 : UInt8)]).data.toList (IntKind.i64.wrap ((64 : Int) - (↑key.size : Int))).toNat)).data.toList)).1.toList)).toList).a), .v (.int .u32 (foldA (H8.mk (1779033703 : Int) (3144134277 : Int) (1013904242 : Int) (2773480762 : Int) (1359893119 : Int) (2600822924 : Int) (528734635 : Int) (1541459225 : Int)) (Array.mk ((Array.mk []).toList ++ (ba (Mac.turn (UInt8.ofNat (Int.toNat (54 : Int))) (key ++ ba (Lib.repeatL (ByteArray.mk #[(0 : UInt8)]).data.toList (IntKind.i64.wrap ((64 : Int) - (↑key.size : Int))).toNat)).data.toList)).1.toList)).toList).b), .v (.int .u32 (foldA (H8.mk (1779033703 : Int) (3144134277 : Int) (1013904242 : Int) (2773480762 : Int) (1359893119 : Int) (2600822924 : Int) (528734635 : Int) (1541459225 : Int)) (Array.mk ((Array.mk []).toList ++ (ba (Mac.turn (UInt8.ofNat (Int.toNat (54 : Int))) (key ++ ba (Lib.repeatL (ByteArray.mk #[(0 : UInt8)]).data.toList (IntKind.i64.wrap ((64 : Int) - (↑key.size : Int))).toNat)).data.toList)).1.toList)).toList).c), .v (.int .u32 (foldA (H8.mk (1779033703 : Int) (3144134277 : Int) (1013904242 : Int) (2773480762 : Int) (1359893119 : Int) (2600822924 : Int) (528734635 : Int) (1541459225 : Int)) (Array.mk ((Array.mk []).toList ++ (ba (Mac.turn (UInt8.ofNat (Int.toNat (54 : Int))) (key ++ ba (Lib.repeatL (ByteArray.mk #[(0 : UInt8)]).data.toList (IntKind.i64.wrap ((64 : Int) - (↑key.size : Int))).toNat)).data.toList)).1.toList)).toList).d), .v (.int .u32 (foldA (H8.mk (1779033703 : Int) (3144134277 : Int) (1013904242 : Int) (2773480762 : Int) (1359893119 : Int) (2600822924 : Int) (528734635 : Int) (1541459225 : Int)) (Array.mk ((Array.mk []).toList ++ (ba (Mac.turn (UInt8.ofNat (Int.toNat (54 : Int))) (key ++ ba (Lib.repeatL (ByteArray.mk #[(0 : UInt8)]).data.toList (IntKind.i64.wrap ((64 : Int) - (↑key.size : Int))).toNat)).data.toList)).1.toList)).toList).e), .v (.int .u32 (foldA (H8.mk (1779033703 : Int) (3144134277 : Int) (1013904242 : Int) (2773480762 : Int) (1359893119 : Int) (2600822924 : Int) (528734635 : Int) (1541459225 : Int)) (Array.mk ((Array.mk []).toList ++ (ba (Mac.turn (UInt8.ofNat (Int.toNat (54 : Int))) (key ++ ba (Lib.repeatL (ByteArray.mk #[(0 : UInt8)]).data.toList (IntKind.i64.wrap ((64 : Int) - (↑key.size : Int))).toNat)).data.toList)).1.toList)).toList).f), .v (.int .u32 (foldA (H8.mk (1779033703 : Int) (3144134277 : Int) (1013904242 : Int) (2773480762 : Int) (1359893119 : Int) (2600822924 : Int) (528734635 : Int) (1541459225 : Int)) (Array.mk ((Array.mk []).toList ++ (ba (Mac.turn (UInt8.ofNat (Int.toNat (54 : Int))) (key ++ ba (Lib.repeatL (ByteArray.mk #[(0 : UInt8)]).data.toList (IntKind.i64.wrap ((64 : Int) - (↑key.size : Int))).toNat)).data.toList)).1.toList)).toList).g), .v (.int .u32 (foldA (H8.mk (1779033703 : Int) (3144134277 : Int) (1013904242 : Int) (2773480762 : Int) (1359893119 : Int) (2600822924 : Int) (528734635 : Int) (1541459225 : Int)) (Array.mk ((Array.mk []).toList ++ (ba (Mac.turn (UInt8.ofNat (Int.toNat (54 : Int))) (key ++ ba (Lib.repeatL (ByteArray.mk #[(0 : UInt8)]).data.toList (IntKind.i64.wrap ((64 : Int) - (↑key.size : Int))).toNat)).data.toList)).1.toList)).toList).h), .v (.string (ba (restA (Array.mk ((Array.mk []).toList ++ (ba (Mac.turn (UInt8.ofNat (Int.toNat (54 : Int))) (key ++ ba (Lib.repeatL (ByteArray.mk #[(0 : UInt8)]).data.toList (IntKind.i64.wrap ((64 : Int) - (↑key.size : Int))).toNat)).data.toList)).1.toList)).toList))), .v (.int .i64 (IntKind.i64.wrap ((0 : Int) + (↑(ba (Mac.turn (UInt8.ofBitVec (BitVec.ofFin (Fin.mk 54 (Nat.mod_lt 54 (BitVec.ofNat._proof_1 8))))) (Array.mk (key.1.toList ++ (ba (Lib.repeatL (ByteArray.mk #[(0 : UInt8)]).data.toList (IntKind.i64.wrap ((64 : Int) - (↑key.size : Int))).toNat)).1.toList)).toList)).size : Int))))], .own [.v (.int .u8 54)]] = stMI (key ++ ba (Lib.repeatL (Array.mk [UInt8.ofBitVec (BitVec.ofFin (Fin.mk 0 (Nat.mod_lt 0 (BitVec.ofNat._proof_1 8))))]).toList (IntKind.i64.wrap ((64 : Int) - (↑key.size : Int))).toNat)) n g p 0) (.ite (decide ((↑n : Int) < (↑n : Int))) (.chk ((0 : Int) ≤ (↑n : Int) ∧ (↑n : Int) < (↑n : Int)) (.chk ((↑n : Int).toNat < n) (.chk ((ba (restA (p ++ (catR g n).1.toList))).size + (g (↑n : Int).toNat).size ≤ 9223372036854775807) (T.stuck 39)))) (.need ((key ++ ba (Lib.repeatL (ByteArray.mk #[(0 : UInt8)]).data.toList (IntKind.i64.wrap ((64 : Int) - (↑key.size : Int))).toNat)).size ≤ 9223372036854775807 ∧ (0 : Int) ≤ (92 : Int) ∧ (92 : Int) < (256 : Int)) (.need ((ba (restA (p ++ (catR g n).data.toList))).size < 64 ∧ (0 : Int) ≤ (↑p.length : Int) + (↑(catR g n).size : Int) ∧ (↑p.length : Int) + (↑(catR g n).size : Int) ≤ (1099511627776 : Int)) (.chk ((ba (Mac.turn (UInt8.ofBitVec (BitVec.ofFin (Fin.mk 92 (Nat.mod_lt 92 (BitVec.ofNat._proof_1 8))))) (Array.mk (key.1.toList ++ (ba (Lib.repeatL (ByteArray.mk #[(0 : UInt8)]).data.toList (IntKind.i64.wrap ((64 : Int) - (↑key.size : Int))).toNat)).1.toList)).toList)).size + (ba (txt (foldA (foldA (H8.mk (1779033703 : Int) (3144134277 : Int) (1013904242 : Int) (2773480762 : Int) (1359893119 : Int) (2600822924 : Int) (528734635 : Int) (1541459225 : Int)) (p ++ (catR g n).1.toList)) ((ba (restA (p ++ (catR g n).data.toList))).1.toList ++ tail (ba (restA (p ++ (catR g n).1.toList))).size ((↑p.length : Int) + (↑(catR g n).size : Int)).toNat)))).size ≤ 9223372036854775807) (.need ((ba (Mac.turn (UInt8.ofBitVec (BitVec.ofFin (Fin.mk 92 (Nat.mod_lt 92 (BitVec.ofNat._proof_1 8))))) (Array.mk (key.1.toList ++ (ba (Lib.repeatL (ByteArray.mk #[(0 : UInt8)]).data.toList (IntKind.i64.wrap ((64 : Int) - (↑key.size : Int))).toNat)).1.toList)).toList) ++ ba (txt (foldA (foldA (H8.mk (1779033703 : Int) (3144134277 : Int) (1013904242 : Int) (2773480762 : Int) (1359893119 : Int) (2600822924 : Int) (528734635 : Int) (1541459225 : Int)) (p ++ (catR g n).1.toList)) ((ba (restA (p ++ (catR g n).data.toList))).1.toList ++ tail (ba (restA (p ++ (catR g n).1.toList))).size ((↑p.length : Int) + (↑(catR g n).size : Int)).toNat)))).size ≤ 1000000000000) (.leaf (.v (.string (shaOf (ba (Mac.turn (UInt8.ofBitVec (BitVec.ofFin (Fin.mk 92 (Nat.mod_lt 92 (BitVec.ofNat._proof_1 8))))) (Array.mk (key.1.toList ++ (ba (Lib.repeatL (ByteArray.mk #[(0 : UInt8)]).data.toList (IntKind.i64.wrap ((64 : Int) - (↑key.size : Int))).toNat)).1.toList)).toList) ++ ba (txt (foldA (foldA (H8.mk (1779033703 : Int) (3144134277 : Int) (1013904242 : Int) (2773480762 : Int) (1359893119 : Int) (2600822924 : Int) (528734635 : Int) (1541459225 : Int)) (p ++ (catR g n).1.toList)) ((ba (restA (p ++ (catR g n).data.toList))).1.toList ++ tail (ba (restA (p ++ (catR g n).1.toList))).size ((↑p.length : Int) + (↑(catR g n).size : Int)).toNat)))))), [Blk.row n 1 fun i x => Value.string (g i)])))))))))))))) := by kernel_rfl
def strsF (f : Nat → Nat → Value) (i : Nat) : ByteArray := strV (f i 0)
def fMac : List SV → List Blk → Option (T (SV × List Blk))
  | [.v (.string key), .ref 0], [.row n 1 f] => some (.need (n ≤ maxLen ∧ key.size ≤ 1000000000000 ∧ (catR (strsF f) n).size ≤ 100000000000 ∧ ∀ i, i < n → f i 0 = .string (strsF f i)) (.leaf (.v (.string (macOf key (catR (strsF f) n))), [.row n 1 fun i _ => .string (strsF f i)])))
  | _, _ => none
theorem sum_at (p : List UInt8) (c : ByteArray) : ba (txt (foldA (foldA H0 (p ++ c.data.toList)) (restA (p ++ c.data.toList) ++ tail (ba (restA (p ++ c.data.toList))).size ((p.length : Int) + (c.size : Int)).toNat))) = shaOf (ba p ++ c) := by
  rw [ba_len, show ((p.length : Int) + (c.size : Int)).toNat = (p ++ c.data.toList).length by rw [List.length_append, show c.data.toList.length = c.size by simp]; omega, sum_pieces]
  unfold shaOf
  rw [ba_app]
  rfl
set_option maxRecDepth 100000 in
theorem fMac_ok : EntryOk Tryz.prog 260 fMac := by
  intro ss H t ht bs B w vs hm hv0 Qs hq
  unfold fMac at ht
  split at ht
  · rename_i key n f
    simp only [Option.some.injEq] at ht
    subst ht
    obtain ⟨⟨q1, q2, q3, q4⟩, hq⟩ := hq
    have hm := mem_row_congr hm (k := 0) (g := fun i _ => .string (strsF f i)) rfl (fun i j hi hj => by obtain rfl : j = 0 := (by omega); exact q4 i hi)
    generalize strsF f = g at hq hm q3
    have hm : Mem w bs [.row n 1 fun i _ => .string (g i)] B w := hm
    have s0 := keyB_size key
    generalize hp : Mac.turn 54 (padK (keyB key)).data.toList = p
    have hK := padK_key key
    have hpl : p.length = 64 := by rw [← hp, turn_length, show (padK (keyB key)).data.toList.length = (padK (keyB key)).size by simp, padK_size _ s0]
    have hsum := sum_at p (catR g n)
    have hv := mac_val key (catR g n) hK
    rw [hp] at hv
    have hrl := restA_length (p ++ (catR g n).data.toList)
    refine trimT_ok (CN_ok SMac2_ok) follows Tryz.func260 (by kernel_rfl) (by kernel_rfl) (one_loop (b := loopAt Tryz.f260 0) (id := 0) (by kernel_rfl) fun st t h => ?_) (macOf_run key n g p) hm hv0 ?_
    · rw [addL_same h]
      exact .str fun key => .need fun h1 => loop_cnt (CN_ok SMac2_ok) follows (by kernel_rfl) (noloops (by kernel_rfl)) (fun i : Nat => i ≤ n) (fun i => stMI key n g p i) (fun i => n - i) 3 [0, 5, 25, 26, 27] [] [] n [] (stMI_step key n g p q1 (by omega) q3) (Nat.zero_le _)
    clear hm hv0
    by_cases hb : 64 < key.size
    · have e : keyB key = shaOf key := by unfold keyB; rw [if_pos hb]
      rw [e] at hp hK hv
      have s1 : (shaOf key).size ≤ 64 := by rw [shaOf_size]; omega
      have hw : IntKind.i64.wrap (64 - ((shaOf key).size : Int)) = 64 - ((shaOf key).size : Int) := w64 _ (by omega) (by omega)
      have hr : Lib.repeatL [(0 : UInt8)] (IntKind.i64.wrap (64 - ((shaOf key).size : Int))).toNat = List.replicate (64 - (shaOf key).size) 0 := by rw [hw, repeatL_one, show (64 - ((shaOf key).size : Int)).toNat = 64 - (shaOf key).size by omega]
      have hKe : (shaOf key) ++ ba (Lib.repeatL [(0 : UInt8)] (IntKind.i64.wrap (64 - ((shaOf key).size : Int))).toNat) = padK (shaOf key) := by rw [hr]; rfl
      have hKz := padK_size (shaOf key) s1
      have hKl : (padK (shaOf key)).data.toList.length = 64 := by rw [show (padK (shaOf key)).data.toList.length = (padK (shaOf key)).size by simp, hKz]
      have m1 : (shaOf key).size + (ba (Lib.repeatL [(0 : UInt8)] (IntKind.i64.wrap (64 - ((shaOf key).size : Int))).toNat)).size ≤ 9223372036854775807 := by rw [hr, ba_len, List.length_replicate]; omega
      have m2 : ((shaOf key) ++ ba (Lib.repeatL [(0 : UInt8)] (IntKind.i64.wrap (64 - ((shaOf key).size : Int))).toNat)).size ≤ 9223372036854775807 := by rw [hKe, hKz]; omega
      have m3 : 0 + (ba (Mac.turn 54 ((shaOf key) ++ ba (Lib.repeatL [(0 : UInt8)] (IntKind.i64.wrap (64 - ((shaOf key).size : Int))).toNat)).data.toList)).size ≤ 9223372036854775807 := by rw [hKe, ba_len, turn_length, hKl]; omega
      have m4 : stM ((shaOf key) ++ ba (Lib.repeatL [(0 : UInt8)] (IntKind.i64.wrap (64 - ((shaOf key).size : Int))).toNat)) n g (foldA H0 ([] ++ Mac.turn 54 ((shaOf key) ++ ba (Lib.repeatL [(0 : UInt8)] (IntKind.i64.wrap (64 - ((shaOf key).size : Int))).toNat)).data.toList)) (ba (restA ([] ++ Mac.turn 54 ((shaOf key) ++ ba (Lib.repeatL [(0 : UInt8)] (IntKind.i64.wrap (64 - ((shaOf key).size : Int))).toNat)).data.toList))) (IntKind.i64.wrap (0 + ((ba (Mac.turn 54 ((shaOf key) ++ ba (Lib.repeatL [(0 : UInt8)] (IntKind.i64.wrap (64 - ((shaOf key).size : Int))).toNat)).data.toList)).size : Int))) 0 = stMI ((shaOf key) ++ ba (Lib.repeatL [(0 : UInt8)] (IntKind.i64.wrap (64 - ((shaOf key).size : Int))).toNat)) n g p 0 := by
        rw [hKe, ba_len, hp, hpl]
        unfold stMI
        rw [show (catR g 0).data.toList = [] from rfl, show (catR g 0).size = 0 from rfl, List.append_nil, List.nil_append, hpl]
        rfl
      have m5 : (ba (Mac.turn 92 ((shaOf key) ++ ba (Lib.repeatL [(0 : UInt8)] (IntKind.i64.wrap (64 - ((shaOf key).size : Int))).toNat)).data.toList)).size = 64 := by rw [hKe, ba_len, turn_length, hKl]
      have m6 : shaOf (ba (Mac.turn 92 ((shaOf key) ++ ba (Lib.repeatL [(0 : UInt8)] (IntKind.i64.wrap (64 - ((shaOf key).size : Int))).toNat)).data.toList) ++ ba (txt (foldA (foldA H0 (p ++ (catR g n).data.toList)) (restA (p ++ (catR g n).data.toList) ++ tail (ba (restA (p ++ (catR g n).data.toList))).size ((p.length : Int) + ((catR g n).size : Int)).toNat)))) = macOf key (catR g n) := by rw [hKe, hsum]; exact hv
      refine ⟨fun _ => ⟨q2, ⟨by omega, by omega, ?_⟩, m1, ⟨m2, by omega, by omega⟩, m3, hpl, rfl, m4, (fun h => ?_), fun _ => ⟨⟨m2, by omega, by omega⟩, ⟨?_, by omega, by omega⟩, ?_, ?_, ?_⟩⟩, fun h => ?_⟩
      · show 1 * _ ≤ _
        rw [hw]; omega
      · have h := of_decide_eq_true h; omega
      · rw [ba_len, hrl]; omega
      · refine Nat.le_trans (Nat.add_le_add (Nat.le_of_eq m5) (Nat.le_of_eq ?_)) (m := 64 + 32) (by omega)
        rw [ba_len, txt_length]
      · rw [ByteArray.size_append]
        refine Nat.le_trans (Nat.add_le_add (Nat.le_of_eq m5) (Nat.le_of_eq ?_)) (m := 64 + 32) (by omega)
        rw [ba_len, txt_length]
      · rw [← m6] at hq
        exact hq
      · have h := of_decide_eq_false h; omega
    · have e : keyB key = key := by unfold keyB; rw [if_neg hb]
      rw [e] at hp hK hv
      have s1 : key.size ≤ 64 := by omega
      have hw : IntKind.i64.wrap (64 - ((key).size : Int)) = 64 - ((key).size : Int) := w64 _ (by omega) (by omega)
      have hr : Lib.repeatL [(0 : UInt8)] (IntKind.i64.wrap (64 - ((key).size : Int))).toNat = List.replicate (64 - (key).size) 0 := by rw [hw, repeatL_one, show (64 - ((key).size : Int)).toNat = 64 - (key).size by omega]
      have hKe : (key) ++ ba (Lib.repeatL [(0 : UInt8)] (IntKind.i64.wrap (64 - ((key).size : Int))).toNat) = padK (key) := by rw [hr]; rfl
      have hKz := padK_size (key) s1
      have hKl : (padK (key)).data.toList.length = 64 := by rw [show (padK (key)).data.toList.length = (padK (key)).size by simp, hKz]
      have m1 : (key).size + (ba (Lib.repeatL [(0 : UInt8)] (IntKind.i64.wrap (64 - ((key).size : Int))).toNat)).size ≤ 9223372036854775807 := by rw [hr, ba_len, List.length_replicate]; omega
      have m2 : ((key) ++ ba (Lib.repeatL [(0 : UInt8)] (IntKind.i64.wrap (64 - ((key).size : Int))).toNat)).size ≤ 9223372036854775807 := by rw [hKe, hKz]; omega
      have m3 : 0 + (ba (Mac.turn 54 ((key) ++ ba (Lib.repeatL [(0 : UInt8)] (IntKind.i64.wrap (64 - ((key).size : Int))).toNat)).data.toList)).size ≤ 9223372036854775807 := by rw [hKe, ba_len, turn_length, hKl]; omega
      have m4 : stM ((key) ++ ba (Lib.repeatL [(0 : UInt8)] (IntKind.i64.wrap (64 - ((key).size : Int))).toNat)) n g (foldA H0 ([] ++ Mac.turn 54 ((key) ++ ba (Lib.repeatL [(0 : UInt8)] (IntKind.i64.wrap (64 - ((key).size : Int))).toNat)).data.toList)) (ba (restA ([] ++ Mac.turn 54 ((key) ++ ba (Lib.repeatL [(0 : UInt8)] (IntKind.i64.wrap (64 - ((key).size : Int))).toNat)).data.toList))) (IntKind.i64.wrap (0 + ((ba (Mac.turn 54 ((key) ++ ba (Lib.repeatL [(0 : UInt8)] (IntKind.i64.wrap (64 - ((key).size : Int))).toNat)).data.toList)).size : Int))) 0 = stMI ((key) ++ ba (Lib.repeatL [(0 : UInt8)] (IntKind.i64.wrap (64 - ((key).size : Int))).toNat)) n g p 0 := by
        rw [hKe, ba_len, hp, hpl]
        unfold stMI
        rw [show (catR g 0).data.toList = [] from rfl, show (catR g 0).size = 0 from rfl, List.append_nil, List.nil_append, hpl]
        rfl
      have m5 : (ba (Mac.turn 92 ((key) ++ ba (Lib.repeatL [(0 : UInt8)] (IntKind.i64.wrap (64 - ((key).size : Int))).toNat)).data.toList)).size = 64 := by rw [hKe, ba_len, turn_length, hKl]
      have m6 : shaOf (ba (Mac.turn 92 ((key) ++ ba (Lib.repeatL [(0 : UInt8)] (IntKind.i64.wrap (64 - ((key).size : Int))).toNat)).data.toList) ++ ba (txt (foldA (foldA H0 (p ++ (catR g n).data.toList)) (restA (p ++ (catR g n).data.toList) ++ tail (ba (restA (p ++ (catR g n).data.toList))).size ((p.length : Int) + ((catR g n).size : Int)).toNat)))) = macOf key (catR g n) := by rw [hKe, hsum]; exact hv
      refine ⟨fun h => ?_, fun _ => ⟨⟨by omega, by omega, ?_⟩, m1, ⟨m2, by omega, by omega⟩, m3, hpl, rfl, m4, (fun h => ?_), fun _ => ⟨⟨m2, by omega, by omega⟩, ⟨?_, by omega, by omega⟩, ?_, ?_, ?_⟩⟩⟩
      · have h := of_decide_eq_true h; omega
      · show 1 * _ ≤ _
        rw [hw]; omega
      · have h := of_decide_eq_true h; omega
      · rw [ba_len, hrl]; omega
      · refine Nat.le_trans (Nat.add_le_add (Nat.le_of_eq m5) (Nat.le_of_eq ?_)) (m := 64 + 32) (by omega)
        rw [ba_len, txt_length]
      · rw [ByteArray.size_append]
        refine Nat.le_trans (Nat.add_le_add (Nat.le_of_eq m5) (Nat.le_of_eq ?_)) (m := 64 + 32) (by omega)
        rw [ba_len, txt_length]
      · rw [← m6] at hq
        exact hq
  · cases ht
end Go.Proofs.YtbippdeahoehoaaGreat
namespace Go.Proofs.YtbippdeahoehoaaGreat
open Go.RowKit Sym Sha Go.ChangeShapes Go.WideShapes Go.ChangeMaps
def strsL : List Value → Option (List ByteArray)
  | [] => some []
  | .string s :: l => (match strsL l with | some m => some (s :: m) | none => none)
  | _ => none
theorem strsL_eq : ∀ {xs : List Value} {l : List ByteArray}, strsL xs = some l → xs = l.map .string
  | [], l, h => by simp only [strsL, Option.some.injEq] at h; subst h; rfl
  | x :: xs, l, h => by
    cases x with
    | string s =>
      simp only [strsL] at h
      split at h
      · rename_i m hm
        simp only [Option.some.injEq] at h
        subst h
        rw [strsL_eq hm]; rfl
      · cases h
    | _ => simp [strsL] at h
def catA : List ByteArray → ByteArray
  | [] => ⟨⟨[]⟩⟩
  | s :: l => s ++ catA l
def catL : List ByteArray → ByteArray
  | [] => ⟨⟨[]⟩⟩
  | [s] => s
  | s :: l => s ++ catL l
theorem catL_eq : ∀ l, catL l = catA l
  | [] => rfl
  | [s] => (app_nil s).symm
  | s :: t :: l => by
    show s ++ catL (t :: l) = s ++ catA (t :: l)
    rw [catL_eq (t :: l)]
theorem catA_snoc : ∀ (l : List ByteArray) (s : ByteArray), catA (l ++ [s]) = catA l ++ s
  | [], s => (app_nil s).trans (nil_app s).symm
  | t :: l, s => by
    show t ++ catA (l ++ [s]) = t ++ catA l ++ s
    rw [catA_snoc l s, ByteArray.append_assoc]
theorem catR_list (l : List ByteArray) (g : Nat → ByteArray) : ∀ n, n ≤ l.length → (∀ i (h : i < l.length), g i = l[i]) → catR g n = catA (l.take n)
  | 0, _, _ => rfl
  | n + 1, h, e => by
    show catR g n ++ g n = _
    rw [catR_list l g n (by omega) e, List.take_succ_eq_append_getElem (by omega), catA_snoc, e n (by omega)]
def fMacV : List SV → List Blk → Option (T (SV × List Blk))
  | [.v (.string key), .ref 0], [.vec o e 1 n xs] => (match strsL xs with
    | some l => bif Nat.beq l.length n then some (.need (n ≤ maxLen ∧ key.size ≤ 1000000000000 ∧ (catL l).size ≤ 100000000000) (.leaf (.v (.string (macOf key (catL l))), [.vec o e 1 n xs]))) else none
    | none => none)
  | ss, H => fMac ss H
theorem fMacV_ok : EntryOk Tryz.prog 260 fMacV := by
  intro ss H t ht bs B w vs hm hv Qs hq
  unfold fMacV at ht
  split at ht
  · rename_i key o e n xs
    split at ht
    · rename_i l hl
      cases hb : Nat.beq l.length n
      · rw [hb] at ht; cases ht
      · rw [hb, cond_true, Option.some.injEq] at ht
        have hn := Nat.eq_of_beq_eq_true hb
        subst ht
        obtain ⟨⟨q1, q2, q3⟩, hq⟩ := hq
        have hx := strsL_eq hl
        have hf : ∀ i (h : i < l.length), strsF (fun i j => cellAt xs (i * 1 + j)) i = l[i] ∧ cellAt xs (i * 1 + 0) = .string l[i] := by
          intro i h
          have : cellAt xs (i * 1 + 0) = .string l[i] := by
            rw [hx]; unfold cellAt; simp [List.getD_eq_getElem?_getD, h]
          refine ⟨?_, this⟩
          show strV (cellAt xs (i * 1 + 0)) = _
          rw [this]; rfl
        have hc : catR (strsF fun i j => cellAt xs (i * 1 + j)) n = catL l := by
          rw [catR_list l _ n (by omega) (fun i h => (hf i h).1), catL_eq, List.take_of_length_le (by omega)]
        have hF : LOk Tryz.prog (addF 260 fMac noF) := addF_ok noF_ok (by kernel_rfl) fMac_ok
        have key2 : liftG (addF 260 fMac noF) 260 [.v (.string key), .ref 0] (fun k => [Blk.vec o e 1 n xs][k]?) 1 = some (.need (n ≤ maxLen ∧ key.size ≤ 1000000000000 ∧ (catR (strsF fun i j => cellAt xs (i * 1 + j)) n).size ≤ 100000000000 ∧ ∀ i, i < n → (fun i j => cellAt xs (i * 1 + j)) i 0 = .string (strsF (fun i j => cellAt xs (i * 1 + j)) i)) (.leaf (.v (.string (macOf key (catR (strsF fun i j => cellAt xs (i * 1 + j)) n))), ⟨[], []⟩))) := by kernel_rfl
        refine ((liftG_ok hF _ _ _ _ _ key2).2 w bs _ B w vs hm (fun k x h => h) rfl hv (fun r => Qs (r.1, [.vec o e 1 n xs]) ∧ r.2 = ⟨[], []⟩) ?_).mono ?_
        · refine ⟨⟨q1, q2, by rw [hc]; exact q3, fun i hi => ?_⟩, ?_, rfl⟩
          · obtain ⟨h1, h2⟩ := hf i (by omega)
            rw [h1]; exact h2
          · rw [hc]; exact hq
        · rintro e' w' ⟨s, ef, B', x, ⟨h1, rfl⟩, h2, h3, h4, h5⟩
          exact ⟨s, _, B', x, h1, h2, h3, h4, h5⟩
    · cases ht
  · exact fMac_ok _ _ t ht bs B w vs hm hv Qs hq
end Go.Proofs.YtbippdeahoehoaaGreat
namespace Go.Proofs.YtbippdeahoehoaaGreat
open Go.RowKit Sym Sha Go.ChangeShapes Go.WideShapes Go.ChangeMaps
end Go.Proofs.YtbippdeahoehoaaGreat
