/- Numbers as bytes: contracts of the reference anabranchref01. Conditions: sizes from 0 to 8, texts shorter than 2 to the 40. -/
import Derived.Test.YtapogkodlempkaaBuf
import Derived.Test.YtapogkodlempkaaPlOct
namespace Go.Proofs.Ytapogkodlempkaa
set_option linter.unusedVariables false
set_option linter.unusedSimpArgs false
open Go.RowKit

theorem one_byte (W : World) (x : UInt8) (X : Int) (h : X = ((x.toNat : Nat) : Int)) : (convert 30 9 (.slice (some ⟨W.heap.size, 0, none⟩) 1 1)).run Try.prog (W.alloc (.cells #[.int .u8 X] 5)) = .ok (.string ⟨#[x]⟩) (W.alloc (.cells #[.int .u8 X] 5)) :=
  run_convert_bytes_back (P := Try.prog) (W.alloc (.cells #[.int .u8 X] 5)) 30 9 5 ⟨W.heap.size, 0, none⟩ 1 [x] Try.underlying30 Try.underlying5 Try.underlying9
    (fun j hj => by
      have : j = 0 := by simpa using hj
      subst this
      simp [Addr.add, h])
set_option maxRecDepth 100000 in
set_option maxHeartbeats 400000 in
theorem ref01_put (s : ByteArray) (u : Nat) (hu : u < 18446744073709551616) (k : Nat) (hk : k ≤ 8) (hs : s.size ≤ 1099511627776) (w : World) :
    Calls Try.prog 93 #[.string s, .int .u64 u, .int .i64 k] w fun e w' => e = .returned (.string ⟨(s.data.toList ++ Oct.be u k).toArray⟩) ∧ Below w.heap.size w w' := by
  go_enter Try.func93, Try.ntmps93
  go_wp2_with fail
  go_loopw [1, 7, 8] (fun n t i wr => ∃ j : Nat, j ≤ k ∧ i = .int .i64 j ∧ n = .int .u64 ((u / 256 ^ j : Nat) : Int) ∧ t = .string ⟨(Oct.be u j).toArray⟩ ∧ Below w.heap.size w wr)
    (fun _ _ i _ => k - (intOf i).toNat)
  case atStart => exact ⟨0, Nat.zero_le _, rfl, by simp, rfl, Below.refl _ _⟩
  case round =>
    obtain ⟨j, hj, rfl, rfl, rfl, hbl⟩ := hrel
    have hbs := hbl.size
    by_cases hlt : j < k
    · have h1 : (j : Int) < (k : Int) := by omega
      have h8 : (j : Int) < 8 := by omega
      have hq : u / 256 ^ j < 18446744073709551616 := Nat.lt_of_le_of_lt (Nat.div_le_self _ _) hu
      generalize hqe : u / 256 ^ j = q at *
      have HQ := Lib.hid hqe
      clear hqe
      have hcv := fun W : World => one_byte W (UInt8.ofNat q) (((q : Nat) : Int) % 256) (by rw [UInt8.toNat_ofNat']; omega)
      have hbe := Oct.be_length u j
      have hl1 : ¬ 9223372036854775807 < 1 + (Oct.be u j).length := by omega
      have hl2 : 1 + (Oct.be u j).length ≤ 9223372036854775807 := by omega
      clear hbe
      go_wp2
      go_roundw
      case rel =>
        refine ⟨j + 1, by omega, by go_num, ?_, ?_, by (repeat' (first | (with_reducible exact Below.refl _ _) | (with_reducible refine below_alloc ?_ _) | (with_reducible refine Below.drew ?_) | (with_reducible refine below_drewN ?_ _) | (with_reducible refine Below.setCell ?_ ?_ _) | (with_reducible assumption) | (with_reducible refine below_of ?_ (by assumption)) | omega | (simp only [World.size_alloc, World.size_setCell, World.size_drew, size_drewN] at *; omega) | (simp; omega)))⟩
        · rw [Nat.pow_succ, ← Nat.div_div_eq_div_mul, HQ.out]; rfl
        · show Value.string ⟨_⟩ = Value.string ⟨_⟩
          rw [show Oct.be u (j + 1) = UInt8.ofNat q :: Oct.be u j by rw [← HQ.out]; rfl]
          simp
      case measure => simp [intOf]; omega
    · obtain rfl : j = k := by omega
      have hbe := Oct.be_length u j
      have hl2 : s.size + (Oct.be u j).length ≤ 9223372036854775807 := by omega
      clear hbe
      go_wp2
      go_ret
      refine ⟨ret_s ?_, hbl⟩
      exact ByteArray.ext (by simp)
theorem ref01_putL (l : List UInt8) (u k : Int) (hu0 : 0 ≤ u) (hu : u < 18446744073709551616) (hk0 : 0 ≤ k) (hk : k ≤ 8) (hl : l.length ≤ 1099511627776) (w : World) :
    Calls Try.prog 93 #[.string ⟨l.toArray⟩, .int .u64 u, .int .i64 k] w fun e w' => e = .returned (.string ⟨(l ++ Oct.be u.toNat k.toNat).toArray⟩) ∧ Below w.heap.size w w' := by
  obtain ⟨m, rfl⟩ := Int.eq_ofNat_of_zero_le hk0
  obtain ⟨v, rfl⟩ := Int.eq_ofNat_of_zero_le hu0
  have := ref01_put ⟨l.toArray⟩ v (by omega) m (by omega) (by show l.toArray.size ≤ _; simpa using hl) w
  simpa using this
theorem val_take (l : List UInt8) (k : Nat) (h : k < l.length) : Oct.val (l.take (k + 1)) = 256 * Oct.val (l.take k) + l[k].toNat := by
  unfold Oct.val
  rw [List.take_succ_eq_append_getElem h, List.foldl_append]; rfl
theorem ref01_of (s : ByteArray) (hs : s.size ≤ maxLen) (w : World) : Calls Try.prog 90 #[.string s] w fun e w' => e = .returned (.int .u64 (((Oct.val s.data.toList) % 18446744073709551616 : Nat) : Int)) ∧ w = w' := by
  unfold maxLen at hs
  go_enter Try.func90, Try.ntmps90
  go_wp2
  go_loop [3, 4] (fun n i => ∃ k : Nat, k ≤ s.size ∧ i = .int .i64 k ∧ n = .int .u64 (((Oct.val (s.data.toList.take k)) % 18446744073709551616 : Nat) : Int)) (fun _ i => s.size - (intOf i).toNat)
  case atStart => exact ⟨0, Nat.zero_le _, rfl, rfl⟩
  case round =>
    obtain ⟨k, hk, rfl, rfl⟩ := hrel
    by_cases hlt : k < s.size
    · have hv := val_take s.data.toList k (by simpa using hlt)
      have HV := Lib.hid hv
      clear hv
      generalize Oct.val (s.data.toList.take k) = v at *
      go_wp2
      go_round
      case rel =>
        refine ⟨k + 1, by omega, by go_num, ?_⟩
        rw [HV.out]
        have e : s.data.toList[k]'(by simpa using hlt) = s[k] := by simp; rfl
        rw [e]
        have hb := s[k].toNat_lt
        generalize s[k].toNat = b at *
        congr 1
        simp only [IntKind.wrap, IntKind.bits, IntKind.signed]
        simp
        omega
      case measure => simp [intOf]; omega
    · go_wp2
      go_ret
      exact ⟨ret_i (by rw [List.take_of_length_le (by simp; omega)]), rfl⟩
end Go.Proofs.Ytapogkodlempkaa
