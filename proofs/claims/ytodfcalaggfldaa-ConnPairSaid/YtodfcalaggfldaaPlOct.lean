/- Numbers as bytes, the highest byte ahead: plain. No program here. -/
import Derived.PlainAid
namespace Go.Proofs.Ytodfcalaggfldaa.Oct
set_option linter.unusedVariables false
set_option linter.unusedSimpArgs false

/-- the k lowest bytes of u, the highest ahead -/
def be (u : Nat) : Nat → List UInt8
  | 0 => []
  | k + 1 => UInt8.ofNat (u / 256 ^ k) :: be u k
def u64 (n : Int) : Nat := (n % 18446744073709551616).toNat
def val (l : List UInt8) : Nat := l.foldl (fun n b => 256 * n + b.toNat) 0
/-- s, and n's k lowest bytes behind -/
def put (s : ByteArray) (n k : Int) : ByteArray := ⟨(s.data.toList ++ be (u64 n) k.toNat).toArray⟩
theorem be_length (u k : Nat) : (be u k).length = k := by induction k <;> simp_all [be]
theorem be_drop (u k j : Nat) (h : j ≤ k) : (be u k).drop (k - j) = be u j := by
  induction k with
  | zero => obtain rfl : j = 0 := by omega
            rfl
  | succ k ih =>
    by_cases e : j = k + 1
    · subst e; simp
    · rw [show k + 1 - j = (k - j) + 1 by omega]
      simpa [be] using ih (by omega)
theorem be_snoc (u k j : Nat) (h : j < k) : (be u k).take (k - (j + 1)) ++ [UInt8.ofNat (u / 256 ^ j)] = (be u k).take (k - j) := by
  have h1 := be_drop u k (j + 1) (by omega)
  have hl := be_length u k
  have h2 : k - (j + 1) < (be u k).length := by omega
  rw [show k - j = (k - (j + 1)) + 1 by omega, List.take_succ_eq_append_getElem h2]
  congr 1
  rw [List.drop_eq_getElem_cons h2] at h1
  simp only [be, List.cons.injEq] at h1
  rw [h1.1]
theorem be_full (u k : Nat) : (be u k).take (k - 0) = be u k := by
  have := be_length u k
  rw [List.take_of_length_le (by omega)]
theorem be_none (u k : Nat) : (be u k).take (k - k) = [] := by simp
theorem u64_lt (n : Int) : u64 n < 18446744073709551616 := by unfold u64; omega
theorem u64_cast (n : Int) : (u64 n : Int) = n % 18446744073709551616 := by unfold u64; omega
theorem byte_of (u j : Nat) : (((UInt8.ofNat (u / 256 ^ j)).toNat : Nat) : Int) = ((u : Int) / 2 ^ (8 * j)) % 256 := by
  have : (256 : Nat) ^ j = 2 ^ (8 * j) := by rw [Nat.pow_mul]
  rw [this]
  simp only [UInt8.toNat_ofNat']
  generalize 8 * j = m
  have h1 : ((u / 2 ^ m : Nat) : Int) = (u : Int) / 2 ^ m := by rw [Int.natCast_ediv, Int.natCast_pow]; rfl
  rw [← h1]
  generalize u / 2 ^ m = q
  omega
theorem or_low (a b : Nat) (hb : b < 256) : bits .or .u64 (IntKind.u64.wrap ((a : Int) * 256)) (IntKind.u64.wrap (b : Int)) = (((256 * a + b) % 18446744073709551616 : Nat) : Int) := by
  have e1 : IntKind.u64.wrap ((a : Int) * 256) = (((a * 256) % 18446744073709551616 : Nat) : Int) := by
    simp only [IntKind.wrap, IntKind.bits, IntKind.signed]; simp
  have e2 : IntKind.u64.wrap (b : Int) = ((b : Nat) : Int) := by
    simp only [IntKind.wrap, IntKind.bits, IntKind.signed]; simp; omega
  rw [e1, e2, u64_or_nat _ _ (by omega) (by omega), nat_join 8 _ _ (by omega) (by omega)]
  omega
theorem foldl_lt (l : List UInt8) (a : Nat) : l.foldl (fun n b => 256 * n + b.toNat) a < (a + 1) * 256 ^ l.length := by
  induction l generalizing a with
  | nil => simp
  | cons b l ih =>
    have hb : b.toNat < 256 := b.toNat_lt
    refine Nat.lt_of_lt_of_le (ih _) ?_
    rw [List.length_cons, Nat.pow_succ, Nat.mul_comm (256 ^ l.length) 256, ← Nat.mul_assoc]
    exact Nat.mul_le_mul_right _ (by show 256 * a + b.toNat + 1 ≤ _; omega)
theorem val_lt (l : List UInt8) : val l < 256 ^ l.length := by
  have := foldl_lt l 0
  simpa [val] using this
theorem val_small {l : List UInt8} (h : l.length ≤ 7) : val l < 72057594037927936 :=
  Nat.lt_of_lt_of_le (val_lt l) (Nat.pow_le_pow_right (by decide) h)
theorem put_size (s : ByteArray) (n k : Int) : (put s n k).size = s.size + k.toNat := by
  show (s.data.toList ++ be (u64 n) k.toNat).toArray.size = _
  simp [be_length]
theorem put_data (s : ByteArray) (n k : Int) : (put s n k).data.toList = s.data.toList ++ be (u64 n) k.toNat := by simp [put]
end Go.Proofs.Ytodfcalaggfldaa.Oct
