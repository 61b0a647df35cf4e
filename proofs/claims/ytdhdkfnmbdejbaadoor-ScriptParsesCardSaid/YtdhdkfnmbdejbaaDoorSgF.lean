/- Bytes in writing, the reference's. No conditions. -/
import Derived.Test.YtdhdkfnmbdejbaaDoorSgE
namespace Go.Proofs.YtdhdkfnmbdejbaaDoor
set_option linter.unusedVariables false
set_option linter.unusedSimpArgs false
open Go.RowKit

theorem sl_dig (p : Nat) (h : p < 16) (W : World) : (Instr.slice 9 (.string ⟨#[48, 49, 50, 51, 52, 53, 54, 55, 56, 57, 97, 98, 99, 100, 101, 102]⟩) (some (.int .u8 (p : Int))) (some (.int .u8 ((p : Int) + 1))) none).run Tryd.prog W = .ok (.string (tx [digL p])) W := by
  have hl : (((p : Int) + 1)) ≤ ((⟨#[48, 49, 50, 51, 52, 53, 54, 55, 56, 57, 97, 98, 99, 100, 101, 102]⟩ : ByteArray).size : Int) := by
    show (p : Int) + 1 ≤ 16
    omega
  rw [run_slice_string_if _ _ _ _ _ _ _ Tryd.underlying9, if_pos ⟨by omega, hl⟩, if_pos ⟨by omega, by omega⟩]
  have e := cut_tx digS p (by rw [digS_size]; exact h)
  rw [digS_at p h] at e
  rw [← e]
  rfl
theorem u8_w (n : Nat) (h : n < 256) : IntKind.u8.wrap (n : Int) = (n : Int) := by
  have : ∀ n : Fin 256, IntKind.u8.wrap (n.1 : Int) = (n.1 : Int) := by decide +kernel
  exact this ⟨n, h⟩
set_option maxRecDepth 100000 in
set_option maxHeartbeats 4000000 in
theorem rhex_any (s : ByteArray) (hs : s.size ≤ 1000000) (w : World) : Calls Tryd.prog 33 #[.string s] w fun e w' => e = .returned (.string (tx (hexL s.data.toList))) ∧ Below w.heap.size w w' := by
  obtain ⟨H, hH⟩ : ∃ H, hexL s.data.toList = H := ⟨_, rfl⟩
  rw [hH]
  go_enter Tryd.func33, Tryd.ntmps33
  go_wp2
  go_loopg [3, 4] s.size (fun gf u3 u4 wx => ∃ (i : Nat), u4 = .int .i64 i ∧ u3 = .string (tx (hexD (s.data.toList.take i))) ∧ i ≤ s.size ∧ s.size ≤ i + gf ∧ Below w.heap.size w wx)
  case atStart => exact ⟨0, rfl, rfl, by omega, by omega, Below.refl _ _⟩
  case round =>
    obtain ⟨i, rfl, rfl, hi, hfu, hb⟩ := hrel
    by_cases hlt : i < s.size
    · obtain ⟨g', rfl⟩ : ∃ g', gk = g' + 1 := ⟨gk - 1, by omega⟩
      have hsn := hexD_snoc (s.data.toList.take i) s[i]
      rw [← take_succ_list hlt] at hsn
      have ix0 := fun W => idx_at s i hlt (i : Int) rfl W
      have hlen : (hexD (s.data.toList.take i)).length = 2 * i := by rw [hexD_len, List.length_take, size_list]; omega
      generalize s[i] = b at *
      have hp : b.toNat / 16 < 16 := by have := b.toNat_lt; omega
      have hq : b.toNat % 16 < 16 := by omega
      have h16 : IntKind.u8.wrap ((b.toNat : Int) / 16) = ((b.toNat / 16 : Nat) : Int) := u8_w (b.toNat / 16) (by omega)
      have h17 : Int.tmod (b.toNat : Int) 16 = ((b.toNat % 16 : Nat) : Int) := rfl
      generalize b.toNat / 16 = p at *
      generalize b.toNat % 16 = q at *
      have h18 : IntKind.u8.wrap ((p : Int) + 1) = (p : Int) + 1 := u8_w (p + 1) (by omega)
      have h19 : IntKind.u8.wrap ((q : Int) + 1) = (q : Int) + 1 := u8_w (q + 1) (by omega)
      have hsp := sl_dig p hp
      have hsq := sl_dig q hq
      generalize hexD (s.data.toList.take i) = T at *
      have hz1 : ¬ 9223372036854775807 < (tx T).size + (tx [digL p]).size := by rw [tx_size, tx_size]; simp; omega
      have hz2 : ¬ 9223372036854775807 < (tx T ++ tx [digL p]).size + (tx [digL q]).size := by rw [tx_append, tx_size, tx_size]; simp; omega
      go_wp2
      go_quiet (fail)
      have hbd := below_drewN hb nq
      go_wp2
      go_roundg g'
      case measure => omega
      case rel => exact ⟨i + 1, rfl, by rw [hsn, tx_append, tx_append, List.append_assoc]; rfl, by omega, by omega, hbd⟩
    · obtain rfl : i = s.size := by omega
      have htl : s.data.toList.take s.size = s.data.toList := by rw [← size_list, List.take_length]
      by_cases h0 : s = tx []
      · have e0 := seq_true h0
        have hH2 : H = [45] := by rw [← hH, h0]; rfl
        clear h0
        go_wp2
        go_ret
        rw [hH2]
        exact ⟨rfl, hb⟩
      · have e0 := seq_false h0
        have hH2 : H = hexD s.data.toList := by rw [← hH]; unfold hexL; rw [if_neg (fun h => h0 (by rw [← tx_list s, h]))]
        clear h0
        go_wp2
        go_ret
        rw [hH2]
        first | exact ⟨rfl, hb⟩ | exact ⟨by rw [htl]; rfl, hb⟩
end Go.Proofs.YtdhdkfnmbdejbaaDoor
