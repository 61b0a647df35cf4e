/- What is known of numbers as bytes, as tables for the evaluator. No conditions. -/
import Derived.Test.YtodfcalaggfldaaSymD
import Derived.Test.YtodfcalaggfldaaOctA
namespace Go.Proofs.Ytodfcalaggfldaa
set_option linter.unusedVariables false
set_option linter.unusedSimpArgs false
open Go.RowKit Sym

theorem follows : Try.prog.follows .mixedOrders = true := by kernel_rfl
theorem of_same {P : Program} {f : FuncId} {xs : Array Value} {w : World} {v : Value} (h : Calls P f xs w fun e w' => e = .returned v ∧ w = w') : Calls P f xs w fun e w' => e = .returned v ∧ Below w.heap.size w w' :=
  h.mono fun _ _ ⟨he, hw⟩ => ⟨he, by subst hw; exact .refl _ _⟩
theorem ba_size (s : ByteArray) : s.data.toList.length = s.size := by simp
theorem oct_put_tab (s : ByteArray) (n k : Int) (h : 0 ≤ k ∧ k ≤ 8 ∧ s.size ≤ 1099511627776) (w : World) : Calls Try.prog 96 #[.string s, .int .i64 n, .int .i64 k] w fun e w' => e = .returned (.string (Oct.put s n k)) ∧ Below w.heap.size w w' := by
  have := oct_putL s.data.toList n k h.1 h.2.1 (by rw [ba_size]; exact h.2.2) w
  simpa [Oct.put] using this
theorem ref01_put_tab (s : ByteArray) (n k : Int) (h : 0 ≤ n ∧ n < 18446744073709551616 ∧ 0 ≤ k ∧ k ≤ 8 ∧ s.size ≤ 1099511627776) (w : World) : Calls Try.prog 103 #[.string s, .int .u64 n, .int .i64 k] w fun e w' => e = .returned (.string (Oct.put s n k)) ∧ Below w.heap.size w w' := by
  have := ref01_putL s.data.toList n k h.1 h.2.1 h.2.2.1 h.2.2.2.1 (by rw [ba_size]; exact h.2.2.2.2) w
  have e : Oct.u64 n = n.toNat := by unfold Oct.u64; rw [Int.emod_eq_of_lt h.1 h.2.1]
  simpa [Oct.put, e] using this
def tOctPut : List Value → Option (List Prop × Value) | [.string s, .int .i64 n, .int .i64 k] => some ([0 ≤ k ∧ k ≤ 8 ∧ s.size ≤ 1099511627776], .string (Oct.put s n k)) | _ => none
def tOct32Put : List Value → Option (List Prop × Value) | [.string s, .int .u32 n, .int .i64 k] => some ([0 ≤ k ∧ k ≤ 8 ∧ s.size ≤ 1099511627776], .string (Oct.put s n k)) | _ => none
def tRef01Put : List Value → Option (List Prop × Value) | [.string s, .int .u64 n, .int .i64 k] => some ([0 ≤ n ∧ n < 18446744073709551616 ∧ 0 ≤ k ∧ k ≤ 8 ∧ s.size ≤ 1099511627776], .string (Oct.put s n k)) | _ => none
/-- the number that bytes are, of 64 bits -/
def valU (s : ByteArray) : Int := ((Oct.val s.data.toList % 18446744073709551616 : Nat) : Int)
def tRef01Of : List Value → Option (List Prop × Value) | [.string s] => some ([s.size ≤ maxLen], .int .u64 (valU s)) | _ => none
def tOctOf : List Value → Option (List Prop × Value) | [.string s] => some ([s.size ≤ maxLen], .int .i64 (wrap64 (valU s))) | _ => none
def tOct32Of : List Value → Option (List Prop × Value) | [.string s] => some ([s.size ≤ maxLen], .int .u32 ((Oct.val s.data.toList % 4294967296 : Nat) : Int)) | _ => none
def SOct  : Tab := addS 96 tOctPut <| addS 103 tRef01Put <| addS 130 tOctOf <| noS
theorem SOct_ok : TabOk Try.prog (SOct) := by
  refine addS_ok (addS_ok (addS_ok (noS_ok) (by kernel_rfl) ?_) (by kernel_rfl) ?_) (by kernel_rfl) ?_
  · (intro xs p v h hp w; unfold tOctOf at h; (split at h) <;> first | (cases h; done) | (simp only [Option.some.injEq, Prod.mk.injEq] at h; obtain ⟨rfl, rfl⟩ := h; exact of_same (oct_of _ (hp _ (List.mem_cons_self ..)) w)))
  · (intro xs p v h hp w; unfold tRef01Put at h; (split at h) <;> first | (cases h; done) | (simp only [Option.some.injEq, Prod.mk.injEq] at h; obtain ⟨rfl, rfl⟩ := h; exact ref01_put_tab _ _ _ (hp _ (List.mem_cons_self ..)) w))
  · (intro xs p v h hp w; unfold tOctPut at h; (split at h) <;> first | (cases h; done) | (simp only [Option.some.injEq, Prod.mk.injEq] at h; obtain ⟨rfl, rfl⟩ := h; exact oct_put_tab _ _ _ (hp _ (List.mem_cons_self ..)) w))
theorem w64 (z : Int) (h0 : -9223372036854775808 ≤ z) (h1 : z < 9223372036854775808) : IntKind.i64.wrap z = z := IntWalk.i64_in _ (by omega)
theorem noloops {P : Program} {N : Nat} {c : Code} (h : loopsOf c = []) {L : Nat → St → Option (T (Ex × St))} : ∀ id b, (id, b) ∈ loopsOf c → ∀ st t, L id st = some t → RunOk P N (.block id (.loop b)) st t := by
  intro id b hm; rw [h] at hm; cases hm
theorem u64_range (z : Int) : 0 ≤ IntKind.u64.wrap z ∧ IntKind.u64.wrap z < 18446744073709551616 := by simp only [IntKind.wrap, IntKind.bits, IntKind.signed]; simp; omega
theorem u64_wrap (z : Int) : Oct.u64 (IntKind.u64.wrap z) = Oct.u64 z := by unfold Oct.u64; simp only [IntKind.wrap, IntKind.bits, IntKind.signed]; simp
theorem valU_lt (s : ByteArray) (n : Nat) (h : s.size ≤ n) (hn : n ≤ 7) : 0 ≤ valU s ∧ valU s < 72057594037927936 := by
  unfold valU
  have h1 := Oct.val_lt s.data.toList
  have h2 : s.data.toList.length ≤ 7 := by rw [show s.data.toList.length = s.size by simp]; omega
  have h3 : (256 : Nat) ^ s.data.toList.length ≤ 256 ^ 7 := Nat.pow_le_pow_right (by omega) h2
  have h4 : (256 : Nat) ^ 7 = 72057594037927936 := by decide
  omega
theorem wrap_valU (s : ByteArray) (n : Nat) (h : s.size ≤ n) (hn : n ≤ 7) : wrap64 (valU s) = valU s ∧ IntKind.i64.wrap (valU s) = valU s := by
  have := valU_lt s n h hn
  refine ⟨?_, w64 _ (by omega) (by omega)⟩
  unfold wrap64; omega
theorem put_u64 (s : ByteArray) (z k : Int) : Oct.put s (IntKind.u64.wrap z) k = Oct.put s z k := by unfold Oct.put; rw [u64_wrap]
theorem put_size (s : ByteArray) (z : Int) (k : Nat) : (Oct.put s z (k : Nat)).size = s.size + k := by rw [Oct.put_size]; omega
end Go.Proofs.Ytodfcalaggfldaa
