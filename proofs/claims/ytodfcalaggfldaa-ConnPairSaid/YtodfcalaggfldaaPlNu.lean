/- Numbers as bytes, and back, plainly. No conditions. -/
import Derived.Test.YtodfcalaggfldaaPlA
namespace Go.Proofs.Ytodfcalaggfldaa
set_option linter.unusedVariables false
set_option linter.unusedSimpArgs false

theorem val_foldl (l : List UInt8) : ∀ a, l.foldl (fun n b => 256 * n + b.toNat) a = a * 256 ^ l.length + Oct.val l := by
  unfold Oct.val
  induction l with
  | nil => intro a; simp
  | cons x l ih =>
    intro a
    simp only [List.foldl_cons, List.length_cons]
    rw [ih (256 * a + x.toNat), ih (256 * 0 + x.toNat), Nat.pow_succ]
    simp only [Nat.mul_zero, Nat.zero_add]
    rw [Nat.add_mul, Nat.mul_comm 256 a, Nat.mul_assoc, Nat.mul_comm 256, Nat.add_assoc]
theorem val_cons (x : UInt8) (l : List UInt8) : Oct.val (x :: l) = x.toNat * 256 ^ l.length + Oct.val l := by
  have := val_foldl l (256 * 0 + x.toNat)
  simp only [Nat.mul_zero, Nat.zero_add] at this
  show List.foldl _ (256 * 0 + x.toNat) l = _
  simpa using this
/-- what bytes say, put again, are the bytes -/
theorem put_val (s t : ByteArray) (k : Nat) (hk : k ≤ 7) (ht : t.size = k) : Oct.put s ((Oct.val t.data.toList % 18446744073709551616 : Nat) : Int) (k : Nat) = s ++ t := by
  have hl : t.data.toList.length = k := by simpa using ht
  have hv := Oct.val_small (l := t.data.toList) (by omega)
  have e : Oct.u64 ((Oct.val t.data.toList % 18446744073709551616 : Nat) : Int) = Oct.val t.data.toList := by unfold Oct.u64; omega
  have hb := be_val t.data.toList
  rw [hl] at hb
  unfold Oct.put
  rw [e, Int.toNat_natCast, hb]
  apply ByteArray.ext
  apply Array.ext'
  simp
end Go.Proofs.Ytodfcalaggfldaa
