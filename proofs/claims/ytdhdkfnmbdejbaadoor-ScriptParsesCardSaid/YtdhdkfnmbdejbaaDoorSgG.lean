/- A number in writing, the reference's; the library's. No conditions. -/
import Derived.Test.YtdhdkfnmbdejbaaDoorSgD
namespace Go.Proofs.YtdhdkfnmbdejbaaDoor
set_option linter.unusedVariables false
set_option linter.unusedSimpArgs false
open Go.RowKit

/-- the digits of a number, from the last one on -/
def ofD : Nat → Nat → List UInt8 → List UInt8
  | 0, _, acc => acc
  | k + 1, n, acc => if n = 0 then acc else ofD k (n / 10) (UInt8.ofNat (48 + n % 10) :: acc)
/-- a number in writing -/
def ofL (n : Int) : List UInt8 := if n = 0 then [48] else if n < 0 then 45 :: ofD 20 n.natAbs [] else ofD 20 n.natAbs []
theorem wrap_dig {d : Nat} (h : d < 10) : wrap64 (d : Int) = (d : Int) := IntWalk.wrap64_in _ ⟨by omega, by omega⟩
theorem wrap_48 {d : Nat} (h : d < 10) : wrap64 (48 + (d : Int)) = 48 + (d : Int) := IntWalk.wrap64_in _ ⟨by omega, by omega⟩
theorem ofD_step (k n : Nat) (acc : List UInt8) (h : n ≠ 0) : ofD (k + 1) n acc = ofD k (n / 10) (UInt8.ofNat (48 + n % 10) :: acc) := by
  show (if n = 0 then acc else _) = _
  rw [if_neg h]
/-- a number of sixty-four bits -/
def In64 (q : Int) : Prop := -9223372036854775808 ≤ q ∧ q ≤ 9223372036854775807
theorem dig_facts (m : Int) (m1 : -9223372036854775808 ≤ m) (m2 : m ≤ 9223372036854775807) : ∃ q t : Int, m.tdiv 10 = q ∧ m.tmod 10 = t ∧ q.natAbs = m.natAbs / 10 ∧ -9223372036854775808 ≤ q ∧ q ≤ 9223372036854775807 ∧ (m ≤ 0 → q ≤ 0) ∧ (0 ≤ m → 0 ≤ q) ∧ (t < 0 → -t = ((m.natAbs % 10 : Nat) : Int)) ∧ (¬ t < 0 → t = ((m.natAbs % 10 : Nat) : Int)) ∧ m.natAbs % 10 < 10 := by
  rcases Int.lt_or_le m 0 with h | h
  · obtain ⟨k, rfl⟩ : ∃ k : Nat, m = -(k : Int) := ⟨m.natAbs, by omega⟩
    have e1 : (-(k : Int)).tdiv 10 = -((k / 10 : Nat) : Int) := by rw [Int.neg_tdiv]; rfl
    have e2 : (-(k : Int)).tmod 10 = -((k % 10 : Nat) : Int) := by rw [Int.neg_tmod]; rfl
    rw [e1, e2, Int.natAbs_neg, Int.natAbs_natCast]
    refine ⟨_, _, rfl, rfl, by rw [Int.natAbs_neg, Int.natAbs_natCast], by omega, by omega, fun _ => by omega, fun _ => by omega, fun _ => by omega, fun _ => by omega, by omega⟩
  · obtain ⟨k, rfl⟩ : ∃ k : Nat, m = (k : Int) := ⟨m.natAbs, by omega⟩
    have e1 : (k : Int).tdiv 10 = ((k / 10 : Nat) : Int) := rfl
    have e2 : (k : Int).tmod 10 = ((k % 10 : Nat) : Int) := rfl
    rw [e1, e2, Int.natAbs_natCast]
    refine ⟨_, _, rfl, rfl, by rw [Int.natAbs_natCast], by omega, by omega, fun _ => by omega, fun _ => by omega, fun _ => by omega, fun _ => by omega, by omega⟩
set_option maxRecDepth 100000 in
set_option maxHeartbeats 4000000 in
theorem rof_any (n : Int) (h1 : -9223372036854775808 ≤ n) (h2 : n ≤ 9223372036854775807) (w : World) : Calls Tryd.prog 32 #[.int .i64 n] w fun e w' => e = .returned (.string (tx (ofL n))) ∧ Below w.heap.size w w' := by
  obtain ⟨H, hH⟩ : ∃ H, ofL n = H := ⟨_, rfl⟩
  rw [hH]
  by_cases h0 : n = 0
  · subst h0
    rw [← hH]
    go_enter Tryd.func32, Tryd.ntmps32
    go_wp2
    go_ret
    exact ⟨rfl, Below.refl _ _⟩
  · have hn0 : (n == 0) = false := by rw [beq_eq_false_iff_ne]; exact h0
    go_enter Tryd.func32, Tryd.ntmps32
    go_wp2
    go_loopg [3, 4] 20 (fun gf u3 u4 wx => ∃ (m : Int) (acc : List UInt8), u4 = .int .i64 m ∧ u3 = .string (tx acc) ∧ m.natAbs < 10 ^ gf ∧ acc.length + gf ≤ 20 ∧ (n < 0 → m ≤ 0) ∧ (0 < n → 0 ≤ m) ∧ ofD gf m.natAbs acc = ofD 20 n.natAbs [] ∧ In64 m ∧ Below w.heap.size w wx)
    case atStart => exact ⟨n, [], rfl, rfl, by omega, by decide, (fun h => by omega), (fun h => by omega), rfl, ⟨h1, h2⟩, Below.refl _ _⟩
    case round =>
      obtain ⟨m, acc, rfl, rfl, hm, hal, hng, hps, hof, hm64, hb⟩ := hrel
      by_cases hz : m = 0
      · subst hz
        have hacc : acc = ofD 20 n.natAbs [] := by rw [← hof]; cases gk <;> rfl
        have hsz : ¬ 9223372036854775807 < 1 + (tx acc).size := by rw [tx_size]; omega
        by_cases hneg : n < 0
        · have hH2 : H = 45 :: acc := by rw [← hH, hacc]; unfold ofL; rw [if_neg h0, if_pos hneg]
          have hap : (⟨#[45]⟩ : ByteArray) ++ tx acc = tx (45 :: acc) := tx_append [45] acc
          clear hacc hof hH
          go_wp2
          go_ret
          first | exact ⟨by rw [hH2]; rfl, hb⟩ | exact ⟨rfl, hb⟩
        · have hH2 : H = acc := by rw [← hH, hacc]; unfold ofL; rw [if_neg h0, if_neg hneg]
          clear hacc hof hH
          go_wp2
          go_ret
          first | exact ⟨by rw [hH2]; rfl, hb⟩ | exact ⟨rfl, hb⟩
      · obtain ⟨g', rfl⟩ : ∃ g', gk = g' + 1 := by
          cases gk with
          | zero => simp at hm; omega
          | succ g => exact ⟨g, rfl⟩
        have hstep : ofD (g' + 1) m.natAbs acc = ofD g' (m.natAbs / 10) (UInt8.ofNat (48 + m.natAbs % 10) :: acc) := ofD_step _ _ _ (fun h => hz (Int.natAbs_eq_zero.1 h))
        rw [hstep] at hof
        clear hstep
        obtain ⟨q, t, hq, ht, hqn, hqr1, hqr2, hqs', hqp', htn, htp, hd10⟩ := dig_facts m hm64.1 hm64.2
        have hq64 : In64 q := ⟨hqr1, hqr2⟩
        have hqs : n < 0 → q ≤ 0 := fun h => hqs' (hng h)
        have hqp : 0 < n → 0 ≤ q := fun h => hqp' (hps h)
        have hpw : q.natAbs < 10 ^ g' := by rw [hqn]; exact Nat.div_lt_of_lt_mul (by rw [Nat.pow_succ, Nat.mul_comm] at hm; exact hm)
        rw [← hqn] at hof
        have hqw : wrap64 q = q := IntWalk.wrap64_in _ ⟨hqr1, hqr2⟩
        clear hqn hqs' hqp' hng hps hm
        generalize m.natAbs % 10 = d at htn htp hof hd10
        have hB : (48 + (d : Int)) % 256 = (((UInt8.ofNat (48 + d)).toNat : Nat) : Int) := by
          rw [UInt8.toNat_ofNat']; omega
        generalize UInt8.ofNat (48 + d) = B at hB hof
        have hsz : ¬ 9223372036854775807 < (tx [B]).size + (tx acc).size := by rw [tx_size, tx_size]; simp; omega
        have hap : tx [B] ++ tx acc = tx (B :: acc) := tx_append [B] acc
        have h48 : wrap64 (48 + (d : Int)) = 48 + (d : Int) := wrap_48 hd10
        have hcv : (convert 67 9 (.slice (some ⟨wr.heap.size, 0, none⟩) 1 1)).run Tryd.prog (wr.alloc (.cells #[.int .u8 (B.toNat : Int)] 5)) = .ok (.string (tx [B])) (wr.alloc (.cells #[.int .u8 (B.toNat : Int)] 5)) := by
          exact run_convert_bytes_back _ _ _ 5 _ _ [B] Tryd.underlying67 Tryd.underlying5 Tryd.underlying9 (by
            intro j hj
            obtain rfl : j = 0 := by simpa using hj
            exact cells_new wr #[.int .u8 ((B.toNat : Nat) : Int)] _ 0 _ rfl)
        have hnt2 : t < 0 → wrap64 (-t) = (d : Int) := fun h => by rw [htn h]; exact wrap_dig hd10
        clear hH h1 h2 hqr1 hqr2 hd10
        by_cases ht0 : t < 0
        · have hnt := hnt2 ht0
          clear hnt2 htn htp
          go_wp2
          go_roundg g'
          case measure => omega
          case rel => exact ⟨q, B :: acc, by first | rfl | rw [hqw], rfl, hpw, by simp only [List.length_cons]; omega, hqs, hqp, hof, hq64, below_alloc hb _⟩
        · have hnt := htp ht0
          clear hnt2 htn htp
          subst hnt
          go_wp2
          go_roundg g'
          case measure => omega
          case rel => exact ⟨q, B :: acc, by first | rfl | rw [hqw], rfl, hpw, by simp only [List.length_cons]; omega, hqs, hqp, hof, hq64, below_alloc hb _⟩
end Go.Proofs.YtdhdkfnmbdejbaaDoor
