/- What is known of numbers as bytes and of beginnings, as tables for the evaluator. No conditions. -/
import Derived.Test.YtnhfhnphmjhamaaSym8
import Derived.Test.YtnhfhnphmjhamaaOctets
import Derived.Test.YtnhfhnphmjhamaaRef01
import Derived.Test.YtnhfhnphmjhamaaHead5
import Derived.Test.YtnhfhnphmjhamaaRef09
namespace Go.Proofs.Ytnhfhnphmjhamaa
set_option linter.unusedVariables false
set_option linter.unusedSimpArgs false
open Go.RowKit Sym

theorem follows : Try.prog.follows .mixedOrders = true := by kernel_rfl
theorem of_same {P : Program} {f : FuncId} {xs : Array Value} {w : World} {v : Value} (h : Calls P f xs w fun e w' => e = .returned v ∧ w = w') : Calls P f xs w fun e w' => e = .returned v ∧ Below w.heap.size w w' :=
  h.mono fun _ _ ⟨he, hw⟩ => ⟨he, by subst hw; exact .refl _ _⟩
theorem ba_size (s : ByteArray) : s.data.toList.length = s.size := by simp
theorem oct_put_tab (s : ByteArray) (n k : Int) (h : 0 ≤ k ∧ k ≤ 8 ∧ s.size ≤ 1099511627776) (w : World) : Calls Try.prog 79 #[.string s, .int .i64 n, .int .i64 k] w fun e w' => e = .returned (.string (Oct.put s n k)) ∧ Below w.heap.size w w' := by
  have := oct_putL s.data.toList n k h.1 h.2.1 (by rw [ba_size]; exact h.2.2) w
  simpa [Oct.put] using this
theorem ref01_put_tab (s : ByteArray) (n k : Int) (h : 0 ≤ n ∧ n < 18446744073709551616 ∧ 0 ≤ k ∧ k ≤ 8 ∧ s.size ≤ 1099511627776) (w : World) : Calls Try.prog 80 #[.string s, .int .u64 n, .int .i64 k] w fun e w' => e = .returned (.string (Oct.put s n k)) ∧ Below w.heap.size w w' := by
  have := ref01_putL s.data.toList n k h.1 h.2.1 h.2.2.1 h.2.2.2.1 (by rw [ba_size]; exact h.2.2.2.2) w
  have e : Oct.u64 n = n.toNat := by unfold Oct.u64; rw [Int.emod_eq_of_lt h.1 h.2.1]
  simpa [Oct.put, e] using this
def tOctPut : List Value → Option (List Prop × Value) | [.string s, .int .i64 n, .int .i64 k] => some ([0 ≤ k ∧ k ≤ 8 ∧ s.size ≤ 1099511627776], .string (Oct.put s n k)) | _ => none
def tRef01Put : List Value → Option (List Prop × Value) | [.string s, .int .u64 n, .int .i64 k] => some ([0 ≤ n ∧ n < 18446744073709551616 ∧ 0 ≤ k ∧ k ≤ 8 ∧ s.size ≤ 1099511627776], .string (Oct.put s n k)) | _ => none
/-- the number that bytes are, of 64 bits -/
def valU (s : ByteArray) : Int := ((Oct.val s.data.toList % 18446744073709551616 : Nat) : Int)
def tRef01Of : List Value → Option (List Prop × Value) | [.string s] => some ([s.size ≤ maxLen], .int .u64 (valU s)) | _ => none
def tOctOf : List Value → Option (List Prop × Value) | [.string s] => some ([s.size ≤ maxLen], .int .i64 (wrap64 (valU s))) | _ => none
def tHeadAcks : List Value → Option (List Prop × Value) | [.int .i64 k] => some ([], .bool (Head.acks k)) | _ => none
def tHeadBears : List Value → Option (List Prop × Value) | [.int .i64 k] => some ([], .bool (Head.bears k)) | _ => none
def tHeadSize : List Value → Option (List Prop × Value) | [.int .i64 k, .bool b] => some ([], .int .i64 (Head.size k b)) | _ => none
def tHeadCheck : List Value → Option (List Prop × Value) | [.agg ⟨[.int .i64 a, .int .i64 b, .int .i64 c, .int .i64 d, .int .i64 e, .int .i64 f, .int .i64 g, .bool h, .int .i64 i]⟩] => some ([], .int .i64 (Head.check ⟨a, b, c, d, e, f, g, h, i⟩)) | _ => none
def tRefOff : List Value → Option (List Prop × Value) | [.int .i64 n, .int .i64 m] => some ([], .bool (!decide (0 ≤ n ∧ n < m))) | _ => none
def putB (h : Head.H) : ByteArray := if Head.check h = 0 then ⟨(Head.put h).toArray⟩ else ⟨#[]⟩
def tHeadPut : List Value → Option (List Prop × Value) | [.agg ⟨[.int .i64 a, .int .i64 b, .int .i64 c, .int .i64 d, .int .i64 e, .int .i64 f, .int .i64 g, .bool h, .int .i64 i]⟩] => some ([], .tuple #[.string (putB ⟨a, b, c, d, e, f, g, h, i⟩), .int .i64 (Head.check ⟨a, b, c, d, e, f, g, h, i⟩)]) | _ => none
def tHeadGet : List Value → Option (List Prop × Value) | [.string s] => some ([s.size ≤ maxLen], .tuple #[(get s).1.v, .string (get s).2.1, .int .i64 (get s).2.2]) | _ => none
theorem head_put_tab (h : Head.H) (w : World) : Calls Try.prog 39 #[h.v] w fun e w' => e = .returned (.tuple #[.string (putB h), .int .i64 (Head.check h)]) ∧ Below w.heap.size w w' := by
  by_cases hc : Head.check h = 0
  · simp only [putB, if_pos hc]; rw [hc]; exact head_put_ok _ _ _ _ _ _ _ _ _ w hc
  · simp only [putB, if_neg hc]; exact head_put_no h w hc
theorem head_get_tab (s : ByteArray) (hm : s.size ≤ maxLen) (w : World) : Calls Try.prog 43 #[.string s] w fun e w' => e = .returned (.tuple #[(get s).1.v, .string (get s).2.1, .int .i64 (get s).2.2]) ∧ Below w.heap.size w w' := by
  by_cases h12 : s.size < 12
  · have := head_get_short s w h12
    have e : get s = (hnone, ⟨#[]⟩, 1) := by unfold get; rw [if_pos h12]
    rw [e]; exact this
  · exact head_get_long s w (by omega) hm
def SHead : Tab := addS 79 tOctPut <| addS 80 tRef01Put <| addS 88 tRef01Of <| addS 110 tOctOf <|
  addS 45 tHeadAcks <| addS 47 tHeadBears <| addS 49 tHeadSize <| addS 41 tHeadCheck <| addS 39 tHeadPut <| addS 43 tHeadGet <|
  addS 46 tHeadAcks <| addS 48 tHeadBears <| addS 50 tHeadSize <| addS 84 tRefOff noS
theorem SHead_ok : TabOk Try.prog SHead := by
  refine addS_ok (addS_ok (addS_ok (addS_ok (addS_ok (addS_ok (addS_ok (addS_ok (addS_ok (addS_ok (addS_ok (addS_ok (addS_ok (addS_ok noS_ok (by kernel_rfl) ?_) (by kernel_rfl) ?_) (by kernel_rfl) ?_) (by kernel_rfl) ?_) (by kernel_rfl) ?_) (by kernel_rfl) ?_) (by kernel_rfl) ?_) (by kernel_rfl) ?_) (by kernel_rfl) ?_) (by kernel_rfl) ?_) (by kernel_rfl) ?_) (by kernel_rfl) ?_) (by kernel_rfl) ?_) (by kernel_rfl) ?_
  · (intro xs p v h hp w; unfold tRefOff at h; (split at h) <;> first | (cases h; done) | (simp only [Option.some.injEq, Prod.mk.injEq] at h; obtain ⟨rfl, rfl⟩ := h; exact of_same (ref09_off _ _ w)))
  · (intro xs p v h hp w; unfold tHeadSize at h; (split at h) <;> first | (cases h; done) | (simp only [Option.some.injEq, Prod.mk.injEq] at h; obtain ⟨rfl, rfl⟩ := h; exact of_same (ref09_size _ _ w)))
  · (intro xs p v h hp w; unfold tHeadBears at h; (split at h) <;> first | (cases h; done) | (simp only [Option.some.injEq, Prod.mk.injEq] at h; obtain ⟨rfl, rfl⟩ := h; exact of_same (ref09_bears _ w)))
  · (intro xs p v h hp w; unfold tHeadAcks at h; (split at h) <;> first | (cases h; done) | (simp only [Option.some.injEq, Prod.mk.injEq] at h; obtain ⟨rfl, rfl⟩ := h; exact of_same (ref09_acks _ w)))
  · (intro xs p v h hp w; unfold tHeadGet at h; (split at h) <;> first | (cases h; done) | (simp only [Option.some.injEq, Prod.mk.injEq] at h; obtain ⟨rfl, rfl⟩ := h; exact head_get_tab _ (hp _ (List.mem_cons_self ..)) w))
  · (intro xs p v h hp w; unfold tHeadPut at h; (split at h) <;> first | (cases h; done) | (simp only [Option.some.injEq, Prod.mk.injEq] at h; obtain ⟨rfl, rfl⟩ := h; exact head_put_tab _ w))
  · (intro xs p v h hp w; unfold tHeadCheck at h; (split at h) <;> first | (cases h; done) | (simp only [Option.some.injEq, Prod.mk.injEq] at h; obtain ⟨rfl, rfl⟩ := h; exact head_check _ w))
  · (intro xs p v h hp w; unfold tHeadSize at h; (split at h) <;> first | (cases h; done) | (simp only [Option.some.injEq, Prod.mk.injEq] at h; obtain ⟨rfl, rfl⟩ := h; exact head_size _ _ w))
  · (intro xs p v h hp w; unfold tHeadBears at h; (split at h) <;> first | (cases h; done) | (simp only [Option.some.injEq, Prod.mk.injEq] at h; obtain ⟨rfl, rfl⟩ := h; exact head_bears _ w))
  · (intro xs p v h hp w; unfold tHeadAcks at h; (split at h) <;> first | (cases h; done) | (simp only [Option.some.injEq, Prod.mk.injEq] at h; obtain ⟨rfl, rfl⟩ := h; exact head_acks _ w))
  · (intro xs p v h hp w; unfold tOctOf at h; (split at h) <;> first | (cases h; done) | (simp only [Option.some.injEq, Prod.mk.injEq] at h; obtain ⟨rfl, rfl⟩ := h; exact of_same (oct_of _ (hp _ (List.mem_cons_self ..)) w)))
  · (intro xs p v h hp w; unfold tRef01Of at h; (split at h) <;> first | (cases h; done) | (simp only [Option.some.injEq, Prod.mk.injEq] at h; obtain ⟨rfl, rfl⟩ := h; exact of_same (ref01_of _ (hp _ (List.mem_cons_self ..)) w)))
  · (intro xs p v h hp w; unfold tRef01Put at h; (split at h) <;> first | (cases h; done) | (simp only [Option.some.injEq, Prod.mk.injEq] at h; obtain ⟨rfl, rfl⟩ := h; exact ref01_put_tab _ _ _ (hp _ (List.mem_cons_self ..)) w))
  · (intro xs p v h hp w; unfold tOctPut at h; (split at h) <;> first | (cases h; done) | (simp only [Option.some.injEq, Prod.mk.injEq] at h; obtain ⟨rfl, rfl⟩ := h; exact oct_put_tab _ _ _ (hp _ (List.mem_cons_self ..)) w))
end Go.Proofs.Ytnhfhnphmjhamaa
