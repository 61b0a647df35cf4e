/- What is known of numbers as bytes and of beginnings, as tables for the evaluator. No conditions. -/
import Derived.Test.YtodfcalaggfldaaTabOct
import Derived.Test.YtodfcalaggfldaaHdC
import Derived.Test.YtodfcalaggfldaaRef09
import Derived.Test.YtodfcalaggfldaaPlNu
namespace Go.Proofs.Ytodfcalaggfldaa
set_option linter.unusedVariables false
set_option linter.unusedSimpArgs false
open Go.RowKit Sym

def tHeadAcks : List Value → Option (List Prop × Value) | [.int .i64 k] => some ([], .bool (Head.acks k)) | _ => none
def tHeadBears : List Value → Option (List Prop × Value) | [.int .i64 k] => some ([], .bool (Head.bears k)) | _ => none
def tHeadSize : List Value → Option (List Prop × Value) | [.int .i64 k, .bool b] => some ([], .int .i64 (Head.size k b)) | _ => none
def tHeadCheck : List Value → Option (List Prop × Value) | [.agg ⟨[.int .i64 a, .int .i64 b, .int .i64 c, .int .i64 d, .int .i64 e, .int .i64 f, .int .i64 g, .bool h, .int .i64 i]⟩] => some ([], .int .i64 (Head.check ⟨a, b, c, d, e, f, g, h, i⟩)) | _ => none
def tRefOff : List Value → Option (List Prop × Value) | [.int .i64 n, .int .i64 m] => some ([], .bool (!decide (0 ≤ n ∧ n < m))) | _ => none
def putB (h : Head.H) : ByteArray := if Head.check h = 0 then ⟨(Head.put h).toArray⟩ else ⟨#[]⟩
def tHeadPut : List Value → Option (List Prop × Value) | [.agg ⟨[.int .i64 a, .int .i64 b, .int .i64 c, .int .i64 d, .int .i64 e, .int .i64 f, .int .i64 g, .bool h, .int .i64 i]⟩] => some ([], .tuple #[.string (putB ⟨a, b, c, d, e, f, g, h, i⟩), .int .i64 (Head.check ⟨a, b, c, d, e, f, g, h, i⟩)]) | _ => none
def tHeadGet : List Value → Option (List Prop × Value) | [.string s] => some ([s.size ≤ maxLen], .tuple #[(get s).1.v, .string (get s).2.1, .int .i64 (get s).2.2]) | _ => none
theorem head_put_tab (h : Head.H) (w : World) : Calls Try.prog 50 #[h.v] w fun e w' => e = .returned (.tuple #[.string (putB h), .int .i64 (Head.check h)]) ∧ Below w.heap.size w w' := by
  by_cases hc : Head.check h = 0
  · simp only [putB, if_pos hc]; rw [hc]; exact head_put_ok _ _ _ _ _ _ _ _ _ w hc
  · simp only [putB, if_neg hc]; exact head_put_no h w hc
theorem head_get_tab (s : ByteArray) (hm : s.size ≤ maxLen) (w : World) : Calls Try.prog 118 #[.string s] w fun e w' => e = .returned (.tuple #[(get s).1.v, .string (get s).2.1, .int .i64 (get s).2.2]) ∧ Below w.heap.size w w' := by
  by_cases h12 : s.size < 12
  · have := head_get_short s w h12
    have e : get s = (hnone, ⟨#[]⟩, 1) := by unfold get; rw [if_pos h12]
    rw [e]; exact this
  · exact head_get_long s w (by omega) hm
def SHead  : Tab := addS 96 tOctPut <| addS 103 tRef01Put <| addS 130 tOctOf <| addS 74 tHeadAcks <| addS 109 tHeadBears <| addS 90 tHeadSize <| addS 55 tHeadCheck <| addS 50 tHeadPut <| addS 118 tHeadGet <| addS 61 tHeadAcks <| addS 113 tHeadBears <| addS 110 tHeadSize <| addS 111 tRefOff <| noS
theorem SHead_ok : TabOk Try.prog (SHead) := by
  refine addS_ok (addS_ok (addS_ok (addS_ok (addS_ok (addS_ok (addS_ok (addS_ok (addS_ok (addS_ok (addS_ok (addS_ok (addS_ok (noS_ok) (by kernel_rfl) ?_) (by kernel_rfl) ?_) (by kernel_rfl) ?_) (by kernel_rfl) ?_) (by kernel_rfl) ?_) (by kernel_rfl) ?_) (by kernel_rfl) ?_) (by kernel_rfl) ?_) (by kernel_rfl) ?_) (by kernel_rfl) ?_) (by kernel_rfl) ?_) (by kernel_rfl) ?_) (by kernel_rfl) ?_
  · (intro xs p v h hp w; unfold tRefOff at h; (split at h) <;> first | (cases h; done) | (simp only [Option.some.injEq, Prod.mk.injEq] at h; obtain ⟨rfl, rfl⟩ := h; exact of_same (ref09_off _ _ w)))
  · (intro xs p v h hp w; unfold tHeadSize at h; (split at h) <;> first | (cases h; done) | (simp only [Option.some.injEq, Prod.mk.injEq] at h; obtain ⟨rfl, rfl⟩ := h; exact of_same (ref09_size _ _ w)))
  · (intro xs p v h hp w; unfold tHeadBears at h; (split at h) <;> first | (cases h; done) | (simp only [Option.some.injEq, Prod.mk.injEq] at h; obtain ⟨rfl, rfl⟩ := h; exact of_same (ref09_bears _ w)))
  · (intro xs p v h hp w; unfold tHeadAcks at h; (split at h) <;> first | (cases h; done) | (simp only [Option.some.injEq, Prod.mk.injEq] at h; obtain ⟨rfl, rfl⟩ := h; exact of_same (ref09_acks _ w)))
  · (intro xs p v h hp w; unfold tHeadGet at h; (split at h) <;> first | (cases h; done) | (simp only [Option.some.injEq, Prod.mk.injEq] at h; obtain ⟨rfl, rfl⟩ := h; exact head_get_tab _ (hp _ (List.mem_cons_self ..)) w))
  · (intro xs p v h hp w; unfold tHeadPut at h; (split at h) <;> first | (cases h; done) | (simp only [Option.some.injEq, Prod.mk.injEq] at h; obtain ⟨rfl, rfl⟩ := h; exact head_put_tab _ w))
  · (intro xs p v h hp w; unfold tHeadCheck at h; (split at h) <;> first | (cases h; done) | (simp only [Option.some.injEq, Prod.mk.injEq] at h; obtain ⟨rfl, rfl⟩ := h; exact head_check _ w))
  · (intro xs p v h hp w; unfold tHeadSize at h; (split at h) <;> first | (cases h; done) | (simp only [Option.some.injEq, Prod.mk.injEq] at h; obtain ⟨rfl, rfl⟩ := h; exact head_size _ _ w))
  · (intro xs p v h hp w; unfold tHeadBears at h; (split at h) <;> first | (cases h; done) | (simp only [Option.some.injEq, Prod.mk.injEq] at h; obtain ⟨rfl, rfl⟩ := h; exact head_bears _ w))
  · (intro xs p v h hp w; unfold tHeadAcks at h; (split at h) <;> first | (cases h; done) | (simp only [Option.some.injEq, Prod.mk.injEq] at h; obtain ⟨rfl, rfl⟩ := h; exact head_acks _ w))
  · (intro xs p v h hp w; unfold tOctOf at h; (split at h) <;> first | (cases h; done) | (simp only [Option.some.injEq, Prod.mk.injEq] at h; obtain ⟨rfl, rfl⟩ := h; exact of_same (oct_of _ (hp _ (List.mem_cons_self ..)) w)))
  · (intro xs p v h hp w; unfold tRef01Put at h; (split at h) <;> first | (cases h; done) | (simp only [Option.some.injEq, Prod.mk.injEq] at h; obtain ⟨rfl, rfl⟩ := h; exact ref01_put_tab _ _ _ (hp _ (List.mem_cons_self ..)) w))
  · (intro xs p v h hp w; unfold tOctPut at h; (split at h) <;> first | (cases h; done) | (simp only [Option.some.injEq, Prod.mk.injEq] at h; obtain ⟨rfl, rfl⟩ := h; exact oct_put_tab _ _ _ (hp _ (List.mem_cons_self ..)) w))
end Go.Proofs.Ytodfcalaggfldaa
namespace Go.Proofs.Ytodfcalaggfldaa
set_option linter.unusedVariables false
set_option linter.unusedSimpArgs false
open Go.RowKit Sym

set_option maxRecDepth 100000 in
theorem ref09_check_run (src dst words ccval cover sum kind seq : Int) (long : Bool) : runV Try.prog (onlyS Try.prog SHead) noL Try.f59 [.agg #[.int .i64 src, .int .i64 dst, .int .i64 words, .int .i64 ccval, .int .i64 cover, .int .i64 sum, .int .i64 kind, .bool long, .int .i64 seq]] = .ite (decide (kind < (0 : Int))) (.leaf (Value.int IntKind.i64 7)) (.ite (decide (kind > (9 : Int))) (.leaf (Value.int IntKind.i64 7)) (.ite (decide (Head.size kind long = (0 : Int))) (.leaf (Value.int IntKind.i64 4)) (.ite (!decide ((0 : Int) ≤ src ∧ src < (65536 : Int))) (.leaf (Value.int IntKind.i64 3)) (.ite (!decide ((0 : Int) ≤ dst ∧ dst < (65536 : Int))) (.leaf (Value.int IntKind.i64 3)) (.ite (!decide ((0 : Int) ≤ sum ∧ sum < (65536 : Int))) (.leaf (Value.int IntKind.i64 3)) (.ite (!decide ((0 : Int) ≤ ccval ∧ ccval < (16 : Int))) (.leaf (Value.int IntKind.i64 3)) (.ite (!decide ((0 : Int) ≤ cover ∧ cover < (16 : Int))) (.leaf (Value.int IntKind.i64 3)) (.ite (!decide ((0 : Int) ≤ words ∧ words < (256 : Int))) (.leaf (Value.int IntKind.i64 3)) (.ite long (.ite (!decide ((0 : Int) ≤ seq ∧ seq < (281474976710656 : Int))) (.leaf (Value.int IntKind.i64 3)) (.ite (!long) (.ite (!decide ((0 : Int) ≤ seq ∧ seq < (16777216 : Int))) (.leaf (Value.int IntKind.i64 3)) (.ite (decide (IntKind.i64.wrap ((4 : Int) * words) < Head.size kind long)) (.leaf (Value.int IntKind.i64 1)) (.leaf (Value.int IntKind.i64 0)))) (.ite (decide (IntKind.i64.wrap ((4 : Int) * words) < Head.size kind long)) (.leaf (Value.int IntKind.i64 1)) (.leaf (Value.int IntKind.i64 0))))) (.ite (!long) (.ite (!decide ((0 : Int) ≤ seq ∧ seq < (16777216 : Int))) (.leaf (Value.int IntKind.i64 3)) (.ite (decide (IntKind.i64.wrap ((4 : Int) * words) < Head.size kind long)) (.leaf (Value.int IntKind.i64 1)) (.leaf (Value.int IntKind.i64 0)))) (.ite (decide (IntKind.i64.wrap ((4 : Int) * words) < Head.size kind long)) (.leaf (Value.int IntKind.i64 1)) (.leaf (Value.int IntKind.i64 0))))))))))))) := by kernel_rfl
theorem ref09_check (h : Head.H) (w : World) : Calls Try.prog 59 #[h.v] w fun e w' => e = .returned (.int .i64 (Head.check h)) ∧ Below w.heap.size w w' := by
  obtain ⟨src, dst, words, ccval, cover, sum, kind, long, seq⟩ := h
  refine calls_runV (onlyS_ok SHead_ok) follows Try.func59 (by kernel_rfl) (by kernel_rfl) noL_ok (ref09_check_run src dst words ccval cover sum kind seq long) ?_ w
  have hwr : (0 ≤ words ∧ words < 256) → IntKind.i64.wrap (4 * words) = 4 * words := fun h => IntWalk.i64_in _ (by omega)
  simp only [T.ok, Head.check, Head.wi, Head.most, Head.size, Head.known, Head.brief]
  grind
def SHead2  : Tab := addS 59 tHeadCheck <| SHead
theorem SHead2_ok : TabOk Try.prog (SHead2) := by
  refine addS_ok (SHead_ok) (by kernel_rfl) ?_
  · (intro xs p v h hp w; unfold tHeadCheck at h; (split at h) <;> first | (cases h; done) | (simp only [Option.some.injEq, Prod.mk.injEq] at h; obtain ⟨rfl, rfl⟩ := h; exact ref09_check _ w))
def LUnroll (P : Program) (S : Tab) (fn : Func) (n : Nat) : Nat → St → Option (T (Ex × St)) := addL 0 (unrollB (runC P (onlyS P S) noL fn.ntmps (loopAt fn 0)) 0 n) noL
set_option maxRecDepth 100000 in
theorem ref09_put_run (src dst words ccval cover sum kind seq : Int) (long : Bool) : runV Try.prog (onlyS Try.prog SHead2) (LUnroll Try.prog SHead2 Try.f102 5) Try.f102 [.agg #[.int .i64 src, .int .i64 dst, .int .i64 words, .int .i64 ccval, .int .i64 cover, .int .i64 sum, .int .i64 kind, .bool long, .int .i64 seq]] = .ite (!decide (Head.check (Head.H.mk src dst words ccval cover sum kind long seq) = (0 : Int))) (.leaf (Value.tuple (Array.mk [Value.string (ByteArray.mk (Array.mk [])), Value.int IntKind.i64 (Head.check (Head.H.mk src dst words ccval cover sum kind long seq))]))) (.need ((0 : Int) ≤ (0 : Int) ∧ (0 : Int) < (↑4 : Int)) (.need (0 < 4) (.need ((0 : Int) ≤ IntKind.u64.wrap src ∧ IntKind.u64.wrap src < (18446744073709551616 : Int) ∧ (0 : Int) ≤ (2 : Int) ∧ (2 : Int) ≤ (8 : Int) ∧ (ByteArray.mk #[]).size ≤ 1099511627776) (.need ((0 : Int) ≤ IntKind.i64.wrap ((0 : Int) + (1 : Int)) ∧ IntKind.i64.wrap ((0 : Int) + (1 : Int)) < (↑4 : Int)) (.need (1 < 4) (.need ((0 : Int) ≤ IntKind.u64.wrap dst ∧ IntKind.u64.wrap dst < (18446744073709551616 : Int) ∧ (0 : Int) ≤ (2 : Int) ∧ (2 : Int) ≤ (8 : Int) ∧ (Oct.put (ByteArray.mk #[]) (IntKind.u64.wrap src) (2 : Int)).size ≤ 1099511627776) (.need ((0 : Int) ≤ IntKind.i64.wrap (IntKind.i64.wrap ((0 : Int) + (1 : Int)) + (1 : Int)) ∧ IntKind.i64.wrap (IntKind.i64.wrap ((0 : Int) + (1 : Int)) + (1 : Int)) < (↑4 : Int)) (.need (2 < 4) (.need ((0 : Int) ≤ IntKind.u64.wrap (IntKind.i64.wrap (IntKind.i64.wrap (IntKind.i64.wrap (words * (256 : Int)) + IntKind.i64.wrap (ccval * (16 : Int))) + cover)) ∧ IntKind.u64.wrap (IntKind.i64.wrap (IntKind.i64.wrap (IntKind.i64.wrap (words * (256 : Int)) + IntKind.i64.wrap (ccval * (16 : Int))) + cover)) < (18446744073709551616 : Int) ∧ (0 : Int) ≤ (2 : Int) ∧ (2 : Int) ≤ (8 : Int) ∧ (Oct.put (Oct.put (ByteArray.mk #[]) (IntKind.u64.wrap src) (2 : Int)) (IntKind.u64.wrap dst) (2 : Int)).size ≤ 1099511627776) (.need ((0 : Int) ≤ IntKind.i64.wrap (IntKind.i64.wrap (IntKind.i64.wrap ((0 : Int) + (1 : Int)) + (1 : Int)) + (1 : Int)) ∧ IntKind.i64.wrap (IntKind.i64.wrap (IntKind.i64.wrap ((0 : Int) + (1 : Int)) + (1 : Int)) + (1 : Int)) < (↑4 : Int)) (.need (3 < 4) (.need ((0 : Int) ≤ IntKind.u64.wrap sum ∧ IntKind.u64.wrap sum < (18446744073709551616 : Int) ∧ (0 : Int) ≤ (2 : Int) ∧ (2 : Int) ≤ (8 : Int) ∧ (Oct.put (Oct.put (Oct.put (ByteArray.mk #[]) (IntKind.u64.wrap src) (2 : Int)) (IntKind.u64.wrap dst) (2 : Int)) (IntKind.u64.wrap (IntKind.i64.wrap (IntKind.i64.wrap (IntKind.i64.wrap (words * (256 : Int)) + IntKind.i64.wrap (ccval * (16 : Int))) + cover))) (2 : Int)).size ≤ 1099511627776) (.ite (!long) (.need ((0 : Int) ≤ IntKind.u64.wrap (IntKind.i64.wrap ((2 : Int) * kind)) ∧ IntKind.u64.wrap (IntKind.i64.wrap ((2 : Int) * kind)) < (18446744073709551616 : Int) ∧ (0 : Int) ≤ (1 : Int) ∧ (1 : Int) ≤ (8 : Int) ∧ (Oct.put (Oct.put (Oct.put (Oct.put (ByteArray.mk #[]) (IntKind.u64.wrap src) (2 : Int)) (IntKind.u64.wrap dst) (2 : Int)) (IntKind.u64.wrap (IntKind.i64.wrap (IntKind.i64.wrap (IntKind.i64.wrap (words * (256 : Int)) + IntKind.i64.wrap (ccval * (16 : Int))) + cover))) (2 : Int)) (IntKind.u64.wrap sum) (2 : Int)).size ≤ 1099511627776) (.need ((0 : Int) ≤ IntKind.u64.wrap seq ∧ IntKind.u64.wrap seq < (18446744073709551616 : Int) ∧ (0 : Int) ≤ (3 : Int) ∧ (3 : Int) ≤ (8 : Int) ∧ (Oct.put (Oct.put (Oct.put (Oct.put (Oct.put (ByteArray.mk #[]) (IntKind.u64.wrap src) (2 : Int)) (IntKind.u64.wrap dst) (2 : Int)) (IntKind.u64.wrap (IntKind.i64.wrap (IntKind.i64.wrap (IntKind.i64.wrap (words * (256 : Int)) + IntKind.i64.wrap (ccval * (16 : Int))) + cover))) (2 : Int)) (IntKind.u64.wrap sum) (2 : Int)) (IntKind.u64.wrap (IntKind.i64.wrap ((2 : Int) * kind))) (1 : Int)).size ≤ 1099511627776) (.leaf (Value.tuple (Array.mk [Value.string (Oct.put (Oct.put (Oct.put (Oct.put (Oct.put (Oct.put (ByteArray.mk (Array.mk [])) (IntKind.u64.wrap src) (2 : Int)) (IntKind.u64.wrap dst) (2 : Int)) (IntKind.u64.wrap (IntKind.i64.wrap (IntKind.i64.wrap (IntKind.i64.wrap (words * (256 : Int)) + IntKind.i64.wrap (ccval * (16 : Int))) + cover))) (2 : Int)) (IntKind.u64.wrap sum) (2 : Int)) (IntKind.u64.wrap (IntKind.i64.wrap ((2 : Int) * kind))) (1 : Int)) (IntKind.u64.wrap seq) (3 : Int)), Value.int IntKind.i64 0]))))) (.need ((0 : Int) ≤ IntKind.u64.wrap (IntKind.i64.wrap (IntKind.i64.wrap ((2 : Int) * kind) + (1 : Int))) ∧ IntKind.u64.wrap (IntKind.i64.wrap (IntKind.i64.wrap ((2 : Int) * kind) + (1 : Int))) < (18446744073709551616 : Int) ∧ (0 : Int) ≤ (1 : Int) ∧ (1 : Int) ≤ (8 : Int) ∧ (Oct.put (Oct.put (Oct.put (Oct.put (ByteArray.mk #[]) (IntKind.u64.wrap src) (2 : Int)) (IntKind.u64.wrap dst) (2 : Int)) (IntKind.u64.wrap (IntKind.i64.wrap (IntKind.i64.wrap (IntKind.i64.wrap (words * (256 : Int)) + IntKind.i64.wrap (ccval * (16 : Int))) + cover))) (2 : Int)) (IntKind.u64.wrap sum) (2 : Int)).size ≤ 1099511627776) (.need ((0 : Int) ≤ IntKind.u64.wrap seq ∧ IntKind.u64.wrap seq < (18446744073709551616 : Int) ∧ (0 : Int) ≤ (7 : Int) ∧ (7 : Int) ≤ (8 : Int) ∧ (Oct.put (Oct.put (Oct.put (Oct.put (Oct.put (ByteArray.mk #[]) (IntKind.u64.wrap src) (2 : Int)) (IntKind.u64.wrap dst) (2 : Int)) (IntKind.u64.wrap (IntKind.i64.wrap (IntKind.i64.wrap (IntKind.i64.wrap (words * (256 : Int)) + IntKind.i64.wrap (ccval * (16 : Int))) + cover))) (2 : Int)) (IntKind.u64.wrap sum) (2 : Int)) (IntKind.u64.wrap (IntKind.i64.wrap (IntKind.i64.wrap ((2 : Int) * kind) + (1 : Int)))) (1 : Int)).size ≤ 1099511627776) (.leaf (Value.tuple (Array.mk [Value.string (Oct.put (Oct.put (Oct.put (Oct.put (Oct.put (Oct.put (ByteArray.mk (Array.mk [])) (IntKind.u64.wrap src) (2 : Int)) (IntKind.u64.wrap dst) (2 : Int)) (IntKind.u64.wrap (IntKind.i64.wrap (IntKind.i64.wrap (IntKind.i64.wrap (words * (256 : Int)) + IntKind.i64.wrap (ccval * (16 : Int))) + cover))) (2 : Int)) (IntKind.u64.wrap sum) (2 : Int)) (IntKind.u64.wrap (IntKind.i64.wrap (IntKind.i64.wrap ((2 : Int) * kind) + (1 : Int)))) (1 : Int)) (IntKind.u64.wrap seq) (7 : Int)), Value.int IntKind.i64 0])))))))))))))))))) := by kernel_rfl
theorem be_two (w x : Nat) (hx : x < 256) : Oct.be (w * 256 + x) 2 = Oct.be w 1 ++ Oct.be x 1 := by
  simp only [Oct.be, List.cons_append, List.nil_append, Nat.pow_zero, Nat.div_one, Nat.pow_one, List.cons.injEq, and_true]
  refine ⟨?_, ?_⟩
  · congr 1; omega
  · apply UInt8.toNat.inj; simp only [UInt8.toNat_ofNat']; omega
theorem be_seven (s : Nat) (hs : s < 281474976710656) : Oct.be s 7 = [0] ++ Oct.be s 6 := by
  show UInt8.ofNat (s / 256 ^ 6) :: Oct.be s 6 = _
  rw [Nat.div_eq_of_lt (by omega)]; rfl
theorem u64_small (n : Int) (h0 : 0 ≤ n) (h1 : n < 18446744073709551616) : Oct.u64 n = n.toNat := by unfold Oct.u64; rw [Int.emod_eq_of_lt h0 h1]
theorem wrap_u64' (n : Int) (h0 : 0 ≤ n) (h1 : n < 18446744073709551616) : IntKind.u64.wrap n = n := by simp only [IntKind.wrap, IntKind.bits, IntKind.signed]; simp; omega
theorem wrap_i64' (n : Int) (h0 : -9223372036854775808 ≤ n) (h1 : n < 9223372036854775808) : IntKind.i64.wrap n = n := IntWalk.i64_in _ (by omega)
theorem put_eq {s : ByteArray} {n k : Int} {l : List UInt8} (h : s.data.toList ++ Oct.be (Oct.u64 n) k.toNat = l) : Oct.put s n k = ⟨l.toArray⟩ := by unfold Oct.put; rw [h]
theorem ref09_put (h : Head.H) (w : World) : Calls Try.prog 102 #[h.v] w fun e w' => e = .returned (.tuple #[.string (putB h), .int .i64 (Head.check h)]) ∧ Below w.heap.size w w' := by
  obtain ⟨src, dst, words, ccval, cover, sum, kind, long, seq⟩ := h
  refine calls_runV (onlyS_ok SHead2_ok) follows Try.func102 (by kernel_rfl) (by kernel_rfl) (one_loop (by kernel_rfl) fun st t h => by
    rw [addL_same h]; exact unroll_ok (onlyS_ok SHead2_ok) follows (by kernel_rfl) (fun _ _ h => by revert h; rw [show loopsOf (loopAt Try.f102 0) = [] by kernel_rfl]; simp) 5 st) (ref09_put_run src dst words ccval cover sum kind seq long) ?_ w
  by_cases hc : Head.check ⟨src, dst, words, ccval, cover, sum, kind, long, seq⟩ = 0
  · have hk := Head.check_ok hc
    simp only [] at hk
    obtain ⟨⟨k0, k1⟩, _, ⟨s0, s1⟩, ⟨d0, d1⟩, ⟨m0, m1⟩, ⟨v0, v1⟩, ⟨c0, c1⟩, ⟨q0, q1⟩, ⟨w0, w1'⟩, _⟩ := hk
    have hq : seq < 281474976710656 := by revert q1; unfold Head.most; cases long <;> simp <;> omega
    rw [wrap_u64' src (by omega) (by omega), wrap_u64' dst (by omega) (by omega), wrap_u64' sum (by omega) (by omega), wrap_u64' seq (by omega) (by omega), wrap_i64' (words * 256) (by omega) (by omega), wrap_i64' (ccval * 16) (by omega) (by omega),
      wrap_i64' (words * 256 + ccval * 16) (by omega) (by omega), wrap_i64' (words * 256 + ccval * 16 + cover) (by omega) (by omega), wrap_u64' (words * 256 + ccval * 16 + cover) (by omega) (by omega),
      wrap_i64' (2 * kind) (by omega) (by omega), wrap_u64' (2 * kind) (by omega) (by omega), wrap_i64' (2 * kind + 1) (by omega) (by omega), wrap_u64' (2 * kind + 1) (by omega) (by omega)]
    have hcov := be_two words.toNat (16 * ccval + cover).toNat (by omega)
    have hdat : ∀ l : List UInt8, (⟨l.toArray⟩ : ByteArray).data.toList = l := fun l => by simp
    have e0 : (ByteArray.mk (Array.mk [])).data.toList = [] := rfl
    have z0 : (ByteArray.mk #[]).size = 0 := rfl
    cases long
    · have e : Oct.put (Oct.put (Oct.put (Oct.put (Oct.put (Oct.put (ByteArray.mk (Array.mk [])) src 2) dst 2) (words * 256 + ccval * 16 + cover) 2) sum 2) (2 * kind) 1) seq 3 = ⟨(Head.put ⟨src, dst, words, ccval, cover, sum, kind, false, seq⟩).toArray⟩ := by
        refine put_eq ?_
        simp only [Oct.put_data, e0, u64_small _ s0 (by omega), u64_small _ d0 (by omega), u64_small _ m0 (by omega), u64_small _ q0 (by omega), u64_small (words * 256 + ccval * 16 + cover) (by omega) (by omega), u64_small (2 * kind) (by omega) (by omega), Head.put,
          u64_small _ w0 (by omega), u64_small (16 * ccval + cover) (by omega) (by omega)]
        rw [show (words * 256 + ccval * 16 + cover).toNat = words.toNat * 256 + (16 * ccval + cover).toNat by omega, show (2 : Int).toNat = 2 from rfl, show (1 : Int).toNat = 1 from rfl, show (3 : Int).toNat = 3 from rfl, hcov]
        simp
      simp only [e]
      simp [T.ok, hc, putB, Oct.put_size, IntKind.wrap_i64, z0]
      omega
    · have e : Oct.put (Oct.put (Oct.put (Oct.put (Oct.put (Oct.put (ByteArray.mk (Array.mk [])) src 2) dst 2) (words * 256 + ccval * 16 + cover) 2) sum 2) (2 * kind + 1) 1) seq 7 = ⟨(Head.put ⟨src, dst, words, ccval, cover, sum, kind, true, seq⟩).toArray⟩ := by
        refine put_eq ?_
        simp only [Oct.put_data, e0, u64_small _ s0 (by omega), u64_small _ d0 (by omega), u64_small _ m0 (by omega), u64_small _ q0 (by omega), u64_small (words * 256 + ccval * 16 + cover) (by omega) (by omega), u64_small (2 * kind + 1) (by omega) (by omega), Head.put,
          u64_small _ w0 (by omega), u64_small (16 * ccval + cover) (by omega) (by omega)]
        rw [show (words * 256 + ccval * 16 + cover).toNat = words.toNat * 256 + (16 * ccval + cover).toNat by omega, show (2 : Int).toNat = 2 from rfl, show (1 : Int).toNat = 1 from rfl, show (7 : Int).toNat = 7 from rfl, hcov, be_seven _ (by omega)]
        simp
      simp only [e]
      simp [T.ok, hc, putB, Oct.put_size, IntKind.wrap_i64, z0]
      omega
  · simp only [T.ok, hc, putB, if_false, decide_false, Bool.not_false]
    simp
def SHead3  : Tab := addS 102 tHeadPut <| SHead2
theorem SHead3_ok : TabOk Try.prog (SHead3) := by
  refine addS_ok (SHead2_ok) (by kernel_rfl) ?_
  · (intro xs p v h hp w; unfold tHeadPut at h; (split at h) <;> first | (cases h; done) | (simp only [Option.some.injEq, Prod.mk.injEq] at h; obtain ⟨rfl, rfl⟩ := h; exact ref09_put _ w))

theorem nu_step (s : ByteArray) (a b : Nat) (ha : a < b) (hb : b ≤ s.size) : (nu s a b : Int) = byteAt s a * (256 ^ (b - a - 1) : Nat) + nu s (a + 1) b := by
  have hl : s.data.toList.length = s.size := by simp
  have e1 : (s.extract a b).data.toList = s.data.toList[a]'(by omega) :: (s.extract (a + 1) b).data.toList := by
    have h1 : ∀ c, (s.extract c b).data.toList = (s.data.toList.take b).drop c := by
      intro c; simp [List.drop_take]
    rw [h1, h1, List.drop_eq_getElem_cons (by rw [List.length_take]; omega)]
    simp
  unfold nu byteAt
  rw [e1, val_cons]
  have h2 : (s.extract (a + 1) b).data.toList.length = b - a - 1 := by simp; omega
  rw [h2, Int.toNat_natCast, List.getD_eq_getElem?_getD, List.getElem?_eq_getElem (by omega)]
  simp only [Option.getD_some]
  rw [Int.natCast_add, Int.natCast_mul]
theorem nu_nil (s : ByteArray) (a : Nat) : nu s a a = 0 := by
  have : (s.extract a a).data.toList = [] := by simp
  unfold nu; rw [this]; rfl
theorem nu_one (s : ByteArray) (a : Nat) (hb : a + 1 ≤ s.size) : (nu s a (a + 1) : Int) = byteAt s a := by
  rw [nu_step s a (a + 1) (by omega) hb, nu_nil]; simp
theorem nu_two (s : ByteArray) (a : Nat) (hb : a + 2 ≤ s.size) : (nu s a (a + 2) : Int) = byteAt s a * 256 + byteAt s (a + 1 : Nat) := by
  rw [nu_step s a (a + 2) (by omega) hb, nu_one s (a + 1) hb]; simp
theorem byteAt_bd (s : ByteArray) (i : Int) : 0 ≤ byteAt s i ∧ byteAt s i < 256 := by
  unfold byteAt
  have := (s.data.toList.getD i.toNat 0).toNat_lt
  omega
theorem valU_nu (s : ByteArray) (a b : Nat) (h : b ≤ a + 7) : valU (s.extract a b) = nu s a b := by
  unfold valU nu
  have := Oct.val_small (l := (s.extract a b).data.toList) (by simp; omega)
  rw [Nat.mod_eq_of_lt (by omega)]
theorem nu_small (s : ByteArray) (a b : Nat) (h : b ≤ a + 7) : nu s a b < 72057594037927936 := Oct.val_small (by simp; omega)
end Go.Proofs.Ytodfcalaggfldaa
namespace Go.Proofs.Ytodfcalaggfldaa
set_option linter.unusedVariables false
set_option linter.unusedSimpArgs false
open Go.RowKit

theorem be_nu (s : ByteArray) (a b k : Nat) (hk : b = a + k) (hb : b ≤ s.size) : Oct.be (nu s a b) k = (s.data.toList.take b).drop a := by
  have h1 : (s.extract a b).data.toList = (s.data.toList.take b).drop a := by simp [List.drop_take]
  have h2 : ((s.data.toList.take b).drop a).length = k := by simp; omega
  have := be_val ((s.data.toList.take b).drop a)
  rw [h2] at this
  unfold nu
  rw [h1, this]
theorem u64_nat (n : Nat) (h : n < 18446744073709551616) : Oct.u64 (n : Int) = n := by unfold Oct.u64; omega
theorem drop_join (l : List UInt8) (a b c : Nat) (h1 : a ≤ b) (h2 : b ≤ c) : (l.take b).drop a ++ (l.take c).drop b = (l.take c).drop a := by
  have e : l.take b = (l.take c).take b := by rw [List.take_take, Nat.min_eq_left h2]
  rw [e]
  have := List.take_append_drop b (l.take c)
  conv => rhs; rw [← this, List.drop_append]
  congr 1
  by_cases hl : b ≤ (l.take c).length
  · rw [show a - ((l.take c).take b).length = 0 by rw [List.length_take]; omega]; rfl
  · rw [List.drop_eq_nil_of_le (by omega)]; simp
theorem get_ok (s : ByteArray) (h0 : (get s).2.2 = 0) : Head.check (get s).1 = 0 ∧ putB (get s).1 ++ (get s).2.1 = s := by
  have hl : s.data.toList.length = s.size := by simp
  have fin : ∀ (h : Head.H) (n : Nat), n ≤ s.size → Head.check h = 0 → Head.put h = s.data.toList.take n → Head.check h = 0 ∧ putB h ++ s.extract n s.size = s := by
    intro h n hn hc hp
    refine ⟨hc, ?_⟩
    unfold putB
    rw [if_pos hc, hp]
    apply ByteArray.ext
    apply Array.toList_inj.1
    simp
    rw [← hl]
    have := List.take_append_drop n s.data.toList
    simp only [hl] at this ⊢
    conv => rhs; rw [← this]
    congr 1
    rw [List.take_of_length_le (by simp)]
  have nb : ∀ a b, b ≤ a + 7 → nu s a b < 18446744073709551616 := fun a b h => Nat.lt_trans (nu_small s a b h) (by decide)
  have n1 : ∀ a, a + 1 ≤ s.size → nu s a (a + 1) < 256 := fun a h => by have := nu_one s a h; have := byteAt_bd s a; omega
  unfold get at h0 ⊢
  by_cases h12 : s.size < 12
  · simp only [if_pos h12] at h0; cases h0
  · simp only [if_neg h12] at h0 ⊢
    have b5 := n1 5 (by omega)
    have b8 := n1 8 (by omega)
    have p02 := be_nu s 0 2 2 rfl (by omega)
    have p24 := be_nu s 2 4 2 rfl (by omega)
    have p45 := be_nu s 4 5 1 rfl (by omega)
    have p56 := be_nu s 5 6 1 rfl (by omega)
    have p68 := be_nu s 6 8 2 rfl (by omega)
    have p89 := be_nu s 8 9 1 rfl (by omega)
    have un : ∀ a b, b ≤ a + 7 → Oct.u64 (nu s a b : Int) = nu s a b := fun a b h => u64_nat _ (nb a b h)
    have c5 : (16 : Int) * ((nu s 5 6 : Int) / 16) + (nu s 5 6 : Int) % 16 = (nu s 5 6 : Nat) := by omega
    by_cases hlg : nu s 8 9 % 2 = 1
    · simp only [if_pos hlg] at h0 ⊢
      by_cases h16 : s.size < 16
      · simp only [if_pos h16] at h0; cases h0
      · simp only [if_neg h16] at h0 ⊢
        by_cases hsp : nu s 8 9 / 32 = 0 ∧ nu s 9 10 = 0
        · simp only [if_pos hsp] at h0 ⊢
          by_cases hc : Head.check (hd s true) = 0
          · simp only [if_pos hc] at h0 ⊢
            refine fin _ 16 (by omega) hc ?_
            have p9 := be_nu s 9 10 1 rfl (by omega)
            have p10 := be_nu s 10 16 6 rfl (by omega)
            have c8 : (2 : Int) * ((nu s 8 9 : Int) / 2 % 16) + 1 = (nu s 8 9 : Nat) := by omega
            rw [hsp.2] at p9
            have z : Oct.be 0 1 = [0] := rfl
            rw [z] at p9
            simp only [Head.put, hd, if_true, c5, c8, un 0 2 (by decide), un 2 4 (by decide), un 4 5 (by decide), un 5 6 (by decide), un 6 8 (by decide), un 8 9 (by decide), un 9 12 (by decide), un 10 16 (by decide), p02, p24, p45, p56, p68, p89, p9, p10]
            simp only [List.append_assoc]
            rw [drop_join _ 9 10 16 (by decide) (by decide), drop_join _ 8 9 16 (by decide) (by decide), drop_join _ 6 8 16 (by decide) (by decide), drop_join _ 5 6 16 (by decide) (by decide), drop_join _ 4 5 16 (by decide) (by decide), drop_join _ 2 4 16 (by decide) (by decide), drop_join _ 0 2 16 (by decide) (by decide)]
            rfl
          · simp only [if_neg hc] at h0; exact absurd h0 hc
        · simp only [if_neg hsp] at h0; cases h0
    · simp only [if_neg hlg] at h0 ⊢
      by_cases hsp : nu s 8 9 / 32 = 0
      · simp only [if_pos hsp] at h0 ⊢
        by_cases hc : Head.check (hd s false) = 0
        · simp only [if_pos hc] at h0 ⊢
          refine fin _ 12 (by omega) hc ?_
          have p9 := be_nu s 9 12 3 rfl (by omega)
          have c8 : (2 : Int) * ((nu s 8 9 : Int) / 2 % 16) = (nu s 8 9 : Nat) := by omega
          simp only [Head.put, hd, Bool.false_eq_true, if_false, c5, c8, un 0 2 (by decide), un 2 4 (by decide), un 4 5 (by decide), un 5 6 (by decide), un 6 8 (by decide), un 8 9 (by decide), un 9 12 (by decide), un 10 16 (by decide), p02, p24, p45, p56, p68, p89, p9]
          simp only [List.append_assoc]
          rw [drop_join _ 8 9 12 (by decide) (by decide), drop_join _ 6 8 12 (by decide) (by decide), drop_join _ 5 6 12 (by decide) (by decide), drop_join _ 4 5 12 (by decide) (by decide), drop_join _ 2 4 12 (by decide) (by decide), drop_join _ 0 2 12 (by decide) (by decide)]
          rfl
        · simp only [if_neg hc] at h0; exact absurd h0 hc
      · simp only [if_neg hsp] at h0; cases h0
theorem putB_size (h : Head.H) : (putB h).size ≤ 16 := by
  unfold putB
  split
  · show (Head.put h).toArray.size ≤ 16
    cases hl : h.long <;> simp [Head.put, hl, Oct.be_length]
  · show (0 : Nat) ≤ 16; decide
theorem extract_join (A B : ByteArray) (n : Nat) (h : A.size = n) : (A ++ B).extract n (A ++ B).size = B := by
  apply ByteArray.ext
  apply Array.toList_inj.1
  have hl : A.data.toList.length = n := by simp [h]
  have e : (A ++ B).data.toList = A.data.toList ++ B.data.toList := by simp
  have e2 : ((A ++ B).extract n (A ++ B).size).data.toList = ((A.data.toList ++ B.data.toList).drop n).take (A.size + B.size - n) := by simp [List.drop_append, List.take_append]; omega
  rw [e2, ← hl, List.drop_left, List.take_of_length_le]
  rw [hl, h]; simp
theorem six_val (x : Nat) (h : x < 281474976710656) : 256 * (256 * (256 * (256 * (256 * (x / 1099511627776 % 256) + x / 4294967296 % 256) + x / 16777216 % 256) + x / 65536 % 256) + x / 256 % 256) + x % 256 = x := by omega
theorem put_get (h : Head.H) (more : ByteArray) (hc : Head.check h = 0) : get (putB h ++ more) = (h, more, 0) := by
  obtain ⟨src, dst, words, ccval, cover, sum, kind, long, seq⟩ := h
  have hk := Head.check_ok hc
  simp only [] at hk
  obtain ⟨⟨k0, k1⟩, _, ⟨s0, s1⟩, ⟨d0, d1⟩, ⟨m0, m1⟩, ⟨v0, v1⟩, ⟨c0, c1⟩, ⟨q0, q1⟩, ⟨w0, w1'⟩, _⟩ := hk
  have nuL : ∀ (l : List UInt8) (t : ByteArray), t.data.toList = l → ∀ a b, nu t a b = Oct.val ((l.take b).drop a) := by
    intro l t e a b
    unfold nu
    rw [← e]
    congr 1
    simp [List.drop_take]
  have v1 : ∀ x : UInt8, Oct.val [x] = x.toNat := fun x => by simp [Oct.val]
  have v2 : ∀ x y : UInt8, Oct.val [x, y] = 256 * x.toNat + y.toNat := fun x y => by simp [Oct.val]
  have v3 : ∀ x y z : UInt8, Oct.val [x, y, z] = 256 * (256 * x.toNat + y.toNat) + z.toNat := fun x y z => by simp [Oct.val]
  have v6 : ∀ a b c d e f : UInt8, Oct.val [a, b, c, d, e, f] = 256 * (256 * (256 * (256 * (256 * a.toNat + b.toNat) + c.toNat) + d.toNat) + e.toNat) + f.toNat := fun a b c d e f => by simp [Oct.val]
  have u : ∀ n : Int, 0 ≤ n → n < 281474976710656 → Oct.u64 n = n.toNat := fun n h0 h1 => u64_small n h0 (by omega)
  cases long
  · have hq : seq < 16777216 := by revert q1; unfold Head.most; simp; omega
    have e : (putB ⟨src, dst, words, ccval, cover, sum, kind, false, seq⟩ ++ more).data.toList = Head.put ⟨src, dst, words, ccval, cover, sum, kind, false, seq⟩ ++ more.data.toList := by simp [putB, hc]
    have hn := nuL _ _ e
    have hsz : (putB ⟨src, dst, words, ccval, cover, sum, kind, false, seq⟩ ++ more).size = 12 + more.size := by
      have : (Head.put ⟨src, dst, words, ccval, cover, sum, kind, false, seq⟩).length = 12 := by simp [Head.put, Oct.be_length]
      rw [ByteArray.size_append]
      unfold putB; rw [if_pos hc]
      show (Head.put _).toArray.size + _ = _
      simp [this]
    simp only [Head.put, Oct.be, u src (by omega) (by omega), u dst (by omega) (by omega), u sum (by omega) (by omega), u words (by omega) (by omega), u seq (by omega) (by omega), u (16 * ccval + cover) (by omega) (by omega), u (2 * kind) (by omega) (by omega), Bool.false_eq_true, if_false, List.cons_append, List.nil_append, Nat.pow_zero, Nat.div_one, Nat.pow_one] at hn
    generalize hT : putB ⟨src, dst, words, ccval, cover, sum, kind, false, seq⟩ ++ more = t at *
    have n02 := hn 0 2; have n24 := hn 2 4; have n45 := hn 4 5; have n56 := hn 5 6; have n68 := hn 6 8; have n89 := hn 8 9; have n9 := hn 9 12
    simp [v1, v2, v3] at n02 n24 n45 n56 n68 n89 n9
    have hh : hd t false = ⟨src, dst, words, ccval, cover, sum, kind, false, seq⟩ := by
      unfold hd
      simp only [Bool.false_eq_true, if_false, Head.H.mk.injEq, true_and, and_true]
      refine ⟨?_, ?_, ?_, ?_, ?_, ?_, ?_, ?_⟩ <;> omega
    have g1 : ¬ nu t 8 9 % 2 = 1 := by omega
    have g2 : nu t 8 9 / 32 = 0 := by omega
    unfold get
    rw [if_neg (by omega), if_neg g1, if_pos g2, hh, if_pos hc]
    have hb : (putB ⟨src, dst, words, ccval, cover, sum, kind, false, seq⟩).size = 12 := by
      rw [← hT, ByteArray.size_append] at hsz; omega
    rw [← hT, extract_join _ _ 12 hb]
  · have hq : seq < 281474976710656 := by revert q1; unfold Head.most; simp; omega
    have e : (putB ⟨src, dst, words, ccval, cover, sum, kind, true, seq⟩ ++ more).data.toList = Head.put ⟨src, dst, words, ccval, cover, sum, kind, true, seq⟩ ++ more.data.toList := by simp [putB, hc]
    have hn := nuL _ _ e
    have hsz : (putB ⟨src, dst, words, ccval, cover, sum, kind, true, seq⟩ ++ more).size = 16 + more.size := by
      have : (Head.put ⟨src, dst, words, ccval, cover, sum, kind, true, seq⟩).length = 16 := by simp [Head.put, Oct.be_length]
      rw [ByteArray.size_append]
      unfold putB; rw [if_pos hc]
      show (Head.put _).toArray.size + _ = _
      simp [this]
    simp only [Head.put, Oct.be, u src (by omega) (by omega), u dst (by omega) (by omega), u sum (by omega) (by omega), u words (by omega) (by omega), u seq (by omega) (by omega), u (16 * ccval + cover) (by omega) (by omega), u (2 * kind + 1) (by omega) (by omega), if_true, List.cons_append, List.nil_append, Nat.pow_zero, Nat.div_one, Nat.pow_one] at hn
    generalize hT : putB ⟨src, dst, words, ccval, cover, sum, kind, true, seq⟩ ++ more = t at *
    have n02 := hn 0 2; have n24 := hn 2 4; have n45 := hn 4 5; have n56 := hn 5 6; have n68 := hn 6 8; have n89 := hn 8 9; have n9 := hn 9 10; have n10 := hn 10 16
    simp [v1, v2, v6] at n02 n24 n45 n56 n68 n89 n9 n10
    rw [six_val _ (by omega)] at n10
    have hh : hd t true = ⟨src, dst, words, ccval, cover, sum, kind, true, seq⟩ := by
      unfold hd
      simp only [if_true, Head.H.mk.injEq, true_and, and_true]
      refine ⟨?_, ?_, ?_, ?_, ?_, ?_, ?_, ?_⟩ <;> omega
    have g1 : nu t 8 9 % 2 = 1 := by omega
    have g2 : nu t 8 9 / 32 = 0 ∧ nu t 9 10 = 0 := by omega
    unfold get
    rw [if_neg (by omega), if_pos g1, if_neg (by omega), if_pos g2, hh, if_pos hc]
    have hb : (putB ⟨src, dst, words, ccval, cover, sum, kind, true, seq⟩).size = 16 := by
      rw [← hT, ByteArray.size_append] at hsz; omega
    rw [← hT, extract_join _ _ 16 hb]
end Go.Proofs.Ytodfcalaggfldaa
