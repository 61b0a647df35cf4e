/- Numbers as bytes: contracts of package octets and of the reference anabranchref01. Conditions: sizes from 0 to 8, texts shorter than 2 to the 40. -/
import Derived.Test.YtapogkodlempkaaBuf
import Derived.Test.YtapogkodlempkaaPlOct
namespace Go.Proofs.Ytapogkodlempkaa
set_option linter.unusedVariables false
set_option linter.unusedSimpArgs false
open Go.RowKit

theorem info_u8 : (Try.prog.info? 5).map (fun i => (i.zero, i.size, i.bytes)) = some (some (.int .u8 0), 1, 1) := by kernel_rfl
set_option maxRecDepth 100000 in
set_option maxHeartbeats 400000 in
theorem oct_put (s : ByteArray) (n : Int) (k : Nat) (hk : k ≤ 8) (hs : s.size ≤ 1099511627776) (w : World) :
    Calls Try.prog 86 #[.string s, .int .i64 n, .int .i64 k] w fun e w' => e = .returned (.string ⟨(s.data.toList ++ Oct.be (Oct.u64 n) k).toArray⟩) ∧ Below w.heap.size w w' := by
  obtain ⟨i0, hi, hz0, hz1, hz2⟩ := info_parts info_u8
  have hconv := fun W => run_bytes_of_string (P := Try.prog) W 9 30 5 s Try.underlying9 Try.underlying30 Try.underlying5
  go_enter Try.func86, Try.ntmps86
  go_wp2_with fail
  have hB := buf_of_string w s 5 (by unfold maxLen; omega)
  generalize grownCap w s.size 0 5 = cap0 at *
  go_loopw [7, 8] (fun v i wr => ∃ j : Nat, j ≤ k ∧ i = .int .i64 ((j : Int) - 1) ∧ Buf wr w.heap.size v (s.data.toList ++ (Oct.be (Oct.u64 n) k).take (k - j)) ∧ Below w.heap.size w wr)
    (fun _ i _ => (intOf i + 1).toNat)
  case atStart => exact ⟨k, Nat.le_refl _, rfl, by rw [Oct.be_none, List.append_nil]; exact hB, by (repeat' (first | (with_reducible exact Below.refl _ _) | (with_reducible refine below_alloc ?_ _) | (with_reducible refine Below.drew ?_) | (with_reducible refine below_drewN ?_ _) | (with_reducible refine Below.setCell ?_ ?_ _) | (with_reducible assumption) | (with_reducible refine below_of ?_ (by assumption)) | omega | (simp only [World.size_alloc, World.size_setCell, World.size_drew, size_drewN] at *; omega) | (simp; omega)))⟩
  case round =>
    obtain ⟨j, hj, rfl, hbuf, hbl⟩ := hrel
    clear hB
    have hbs := hbl.size
    cases j with
    | zero =>
      have hc := run_buf_string (P := Try.prog) wr w.heap.size 30 9 5 _ _ Try.underlying30 Try.underlying5 Try.underlying9 hbuf
      rw [Oct.be_full] at hc
      go_wp2
      go_ret
      exact ⟨rfl, hbl⟩
    | succ j =>
      have hval : (((j + 1 : Nat) : Int) - 1) = (j : Int) := by omega
      rw [hval]
      clear hval
      have hx0 : IntKind.u64.wrap n / 2 ^ (8 * j) % 256 = (((UInt8.ofNat (Oct.u64 n / 256 ^ j)).toNat : Nat) : Int) := by
        rw [Oct.byte_of, Oct.u64_cast]; rfl
      have HX := Lib.hid hx0
      have hsn := Oct.be_snoc (Oct.u64 n) k j (by omega)
      have HS := Lib.hid hsn
      have hsd : s.data.toList.length = s.size := by simp
      have hln : (s.data.toList ++ (Oct.be (Oct.u64 n) k).take (k - (j + 1))).length + 1 ≤ 140737488355328 := by
        rw [List.length_append, List.length_take, Oct.be_length, hsd]; omega
      have HL := Lib.hid hln
      clear hx0 hsn hsd hln
      go_wp2_with (at_builtin; refine wpList_buf_append _ rfl _ _ 30 rfl w.heap.size 5 i0 (.int .u8 0) Try.underlying30 hi hz0 hz1 hz2 rfl _ _ rfl (hbuf.alloc _) ⟨wr.heap.size, 0, none⟩ 1 (UInt8.ofNat (Oct.u64 n / 256 ^ j)) rfl (by rw [← HX.out]; simp) HL.out (by simp; omega) ?_; intro v' w1 hbuf' hb')
      rw [List.append_assoc, HS.out] at hbuf'
      go_roundw
      case rel => exact ⟨j, by omega, rfl, hbuf', by have := hbl.alloc (Nat.le_of_lt_succ (Nat.lt_succ_of_le hbs)) (.cells #[.int .u8 (IntKind.u64.wrap n / 2 ^ (8 * j) % 256)] 5); exact this.trans hb'⟩
      case measure => simp [intOf] <;> omega
/-- the same, for texts as lists and any size from 0 to 8 -/
theorem oct_putL (l : List UInt8) (n k : Int) (hk0 : 0 ≤ k) (hk : k ≤ 8) (hl : l.length ≤ 1099511627776) (w : World) :
    Calls Try.prog 86 #[.string ⟨l.toArray⟩, .int .i64 n, .int .i64 k] w fun e w' => e = .returned (.string ⟨(l ++ Oct.be (Oct.u64 n) k.toNat).toArray⟩) ∧ Below w.heap.size w w' := by
  obtain ⟨m, rfl⟩ := Int.eq_ofNat_of_zero_le hk0
  have := oct_put ⟨l.toArray⟩ n m (by omega) (by show l.toArray.size ≤ _; simpa using hl) w
  simpa using this
theorem octv_take (l : List UInt8) (k : Nat) (h : k < l.length) : Oct.val (l.take (k + 1)) = 256 * Oct.val (l.take k) + l[k].toNat := by
  unfold Oct.val
  rw [List.take_succ_eq_append_getElem h, List.foldl_append]; rfl
/-- the number that at most 8 bytes are -/
theorem oct_of (s : ByteArray) (hs : s.size ≤ maxLen) (w : World) : Calls Try.prog 97 #[.string s] w fun e w' => e = .returned (.int .i64 (wrap64 (((Oct.val s.data.toList) % 18446744073709551616 : Nat) : Int))) ∧ w = w' := by
  unfold maxLen at hs
  go_enter Try.func97, Try.ntmps97
  go_wp2
  go_loop [3, 7] (fun n i => ∃ k : Nat, k ≤ s.size ∧ i = .int .i64 k ∧ n = .int .u64 (((Oct.val (s.data.toList.take k)) % 18446744073709551616 : Nat) : Int)) (fun _ i => s.size - (intOf i).toNat)
  case atStart => exact ⟨0, Nat.zero_le _, rfl, rfl⟩
  case round =>
    obtain ⟨k, hk, rfl, rfl⟩ := hrel
    by_cases hlt : k < s.size
    · have hv := octv_take s.data.toList k (by simpa using hlt)
      have HV := Lib.hid hv
      clear hv
      generalize Oct.val (s.data.toList.take k) = v at *
      go_wp2
      go_round
      case rel =>
        refine ⟨k + 1, by omega, by go_num, ?_⟩
        rw [HV.out]
        have e : s.data.toList[k]'(by simpa using hlt) = s[k] := by simp; rfl
        rw [e]
        have hb : s[k].toNat < 256 := s[k].toNat_lt
        generalize s[k].toNat = b at *
        congr 1
        have := Oct.or_low (v % 18446744073709551616) b hb
        rw [show (((v % 18446744073709551616 : Nat)) : Int) = (v : Int) % 18446744073709551616 by omega] at this
        rw [this]
        omega
      case measure => simp [intOf]; omega
    · go_wp2
      go_ret
      exact ⟨ret_i (by rw [List.take_of_length_le (by simp; omega)]), rfl⟩
end Go.Proofs.Ytapogkodlempkaa
