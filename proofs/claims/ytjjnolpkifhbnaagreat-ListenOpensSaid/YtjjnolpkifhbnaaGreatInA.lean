/- The Internet's checksum, plainly. No conditions. -/
import Derived.PlainAid
import Derived.Test.YtjjnolpkifhbnaaGreatSymH
import Derived.Test.YtjjnolpkifhbnaaGreatCuA
import Derived.Test.YtjjnolpkifhbnaaGreatStrs
namespace Go.Proofs.YtjjnolpkifhbnaaGreat.Inet
set_option linter.unusedVariables false
set_option linter.unusedSimpArgs false

/-- what is above 16 bits, added at the lower end, as often as may be -/
def foldN (n : Int) : Int := if n = 0 then 0 else (n - 1) % 65535 + 1
theorem fold_small {n : Int} (h0 : 0 ≤ n) (h1 : n ≤ 65535) : foldN n = n := by
  unfold foldN
  split <;> omega
theorem fold_step {n : Int} (h : n > 65535) : foldN (n % 65536 + n / 65536) = foldN n := by
  unfold foldN
  rw [if_neg (by omega), if_neg (by omega)]
  omega
theorem fold_bd {n : Int} (h : 0 ≤ n) : 0 ≤ foldN n ∧ foldN n ≤ 65535 := by
  unfold foldN
  split <;> omega
theorem fold_add {a b : Int} (ha : 0 ≤ a) (hb : 0 ≤ b) : foldN (foldN a + b) = foldN (a + b) := by
  unfold foldN
  split
  · rename_i h
    subst h
    simp
  · rw [if_neg (by omega), if_neg (by omega)]
    omega
/-- bytes as numbers of two of them, added -/
def tot16 : List UInt8 → Nat
  | [] => 0
  | [x] => 256 * x.toNat
  | x :: y :: l => 256 * x.toNat + y.toNat + tot16 l
theorem tot_bd : ∀ l : List UInt8, tot16 l ≤ 65535 * l.length
  | [] => Nat.le_refl _
  | [x] => by have := x.toNat_lt; simp only [tot16, List.length_cons, List.length_nil]; omega
  | x :: y :: l => by
    have := x.toNat_lt; have := y.toNat_lt; have := tot_bd l
    simp only [tot16, List.length_cons]; omega
theorem tot_append : ∀ (l m : List UInt8), l.length % 2 = 0 → tot16 (l ++ m) = tot16 l + tot16 m
  | [], m, _ => by simp [tot16]
  | [x], m, h => by simp at h
  | x :: y :: l, m, h => by
    have := tot_append l m (by simp at h ⊢; omega)
    simp only [List.cons_append, tot16, this]; omega
theorem tot_pad (l : List UInt8) : tot16 (l ++ [0]) = tot16 l := by
  match l with
  | [] => rfl
  | [x] => rfl
  | x :: y :: l =>
    have := tot_pad l
    simp only [List.cons_append, tot16, this]
end Go.Proofs.YtjjnolpkifhbnaaGreat.Inet
namespace Go.Proofs.YtjjnolpkifhbnaaGreat
set_option linter.unusedVariables false
set_option linter.unusedSimpArgs false
open Go.RowKit Sym Sha Go.ChangeShapes Go.WideShapes Go.ChangeMaps Inet




set_option maxRecDepth 100000 in
theorem cov_run (h d : ByteArray) (c : Int) : runV Tryz.prog (onlyS Tryz.prog noS) noL Tryz.f68 [.string h, .string d, .int .i64 c] = .ite (decide (c < (0 : Int))) (.leaf (Value.tuple (Array.mk [.string (ByteArray.mk (Array.mk [])), Value.bool false]))) (.ite (decide (c > (15 : Int))) (.leaf (Value.tuple (Array.mk [.string (ByteArray.mk (Array.mk [])), Value.bool false]))) (.ite (decide (IntKind.i64.wrap ((4 : Int) * IntKind.i64.wrap (c - (1 : Int))) > (↑d.size : Int))) (.leaf (Value.tuple (Array.mk [.string (ByteArray.mk (Array.mk [])), Value.bool false]))) (.ite (decide (c = (0 : Int))) (.need ((0 : Int) ≤ (0 : Int) ∧ (0 : Int) ≤ (↑d.size : Int) ∧ (↑d.size : Int) ≤ (↑d.size : Int)) (.need (h.size + (d.extract 0 (↑d.size : Int).toNat).size ≤ 9223372036854775807) (.leaf (Value.tuple (Array.mk [.string (h ++ d.extract 0 (↑d.size : Int).toNat), Value.bool true]))))) (.need ((0 : Int) ≤ (0 : Int) ∧ (0 : Int) ≤ IntKind.i64.wrap ((4 : Int) * IntKind.i64.wrap (c - (1 : Int))) ∧ IntKind.i64.wrap ((4 : Int) * IntKind.i64.wrap (c - (1 : Int))) ≤ (↑d.size : Int)) (.need (h.size + (d.extract 0 (IntKind.i64.wrap ((4 : Int) * IntKind.i64.wrap (c - (1 : Int)))).toNat).size ≤ 9223372036854775807) (.leaf (Value.tuple (Array.mk [.string (h ++ d.extract 0 (IntKind.i64.wrap ((4 : Int) * IntKind.i64.wrap (c - (1 : Int)))).toNat), Value.bool true])))))))) := by kernel_rfl
set_option maxRecDepth 100000 in
theorem covR_run (h d : ByteArray) (c : Int) : runV Tryz.prog (onlyS Tryz.prog noS) noL Tryz.f50 [.string h, .string d, .int .i64 c] = .ite (decide (c < (0 : Int))) (.leaf (Value.tuple (Array.mk [.string (ByteArray.mk (Array.mk [])), Value.bool false]))) (.ite (decide (c > (15 : Int))) (.leaf (Value.tuple (Array.mk [.string (ByteArray.mk (Array.mk [])), Value.bool false]))) (.ite (decide (c = (0 : Int))) (.need (h.size + d.size ≤ 9223372036854775807) (.leaf (Value.tuple (Array.mk [.string (h ++ d), Value.bool true])))) (.ite (decide (IntKind.i64.wrap ((4 : Int) * IntKind.i64.wrap (c - (1 : Int))) > (↑d.size : Int))) (.leaf (Value.tuple (Array.mk [.string (ByteArray.mk (Array.mk [])), Value.bool false]))) (.need ((0 : Int) ≤ (0 : Int) ∧ (0 : Int) ≤ IntKind.i64.wrap ((4 : Int) * IntKind.i64.wrap (c - (1 : Int))) ∧ IntKind.i64.wrap ((4 : Int) * IntKind.i64.wrap (c - (1 : Int))) ≤ (↑d.size : Int)) (.need (h.size + (d.extract 0 (IntKind.i64.wrap ((4 : Int) * IntKind.i64.wrap (c - (1 : Int)))).toNat).size ≤ 9223372036854775807) (.leaf (Value.tuple (Array.mk [.string (h ++ d.extract 0 (IntKind.i64.wrap ((4 : Int) * IntKind.i64.wrap (c - (1 : Int)))).toNat), Value.bool true])))))))) := by kernel_rfl
end Go.Proofs.YtjjnolpkifhbnaaGreat
namespace Go.Proofs.YtjjnolpkifhbnaaGreat
set_option linter.unusedVariables false
set_option linter.unusedSimpArgs false
open Go.RowKit Sym Sha Go.ChangeShapes Go.WideShapes Go.ChangeMaps Inet

theorem and_low (n : Int) (h0 : 0 ≤ n) (h1 : n < 18446744073709551616) : ((Nat.bitwise Bool.and (n % 18446744073709551616).toNat 65535 : Nat) : Int) = n % 65536 := by
  have e : (n % 18446744073709551616).toNat = n.toNat := by omega
  rw [e]
  have h : Nat.bitwise Bool.and n.toNat 65535 = n.toNat % 65536 := Nat.and_two_pow_sub_one_eq_mod n.toNat 16
  rw [h]
  omega
def pseuB (f t z : Int) : ByteArray := Oct.put (Oct.put (Oct.put (Oct.put ⟨⟨[]⟩⟩ f 4) t 4) 33 2) z 2
theorem put33 (s : ByteArray) : Oct.put s 33 2 = s ++ ⟨#[0, 33]⟩ := by
  apply ByteArray.ext
  rw [ByteArray.data_append]
  unfold Oct.put
  apply Array.ext'
  simp
  rfl
theorem pseuB_size (f t z : Int) : (pseuB f t z).size = 12 := by unfold pseuB; rw [Oct.put_size, Oct.put_size, Oct.put_size, Oct.put_size]; rfl
def covOk (d : ByteArray) (c : Int) : Bool := decide (0 ≤ c ∧ c ≤ 15 ∧ (c = 0 ∨ 4 * (c - 1) ≤ d.size))
def covB (h d : ByteArray) (c : Int) : ByteArray := if covOk d c = true then (if c = 0 then h ++ d else h ++ d.extract 0 (4 * (c - 1)).toNat) else ⟨⟨[]⟩⟩
end Go.Proofs.YtjjnolpkifhbnaaGreat
