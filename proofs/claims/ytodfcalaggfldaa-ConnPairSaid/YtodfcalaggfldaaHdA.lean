/- What kinds of packets bear: plain. No program here. -/
import Derived.PlainAid
import Derived.Test.YtodfcalaggfldaaPlOct
import Derived.Test.YtodfcalaggfldaaBase
import Derived.Deep.RegionHeld3
namespace Go.Proofs.Ytodfcalaggfldaa.Head
set_option linter.unusedVariables false
set_option linter.unusedSimpArgs false

def known (k : Int) : Bool := decide (0 ≤ k ∧ k ≤ 9)
def acks (k : Int) : Bool := decide (k = 1 ∨ (3 ≤ k ∧ k ≤ 9))
def bears (k : Int) : Bool := decide (k = 0 ∨ k = 1 ∨ k = 2 ∨ k = 4)
def more (k : Int) : Bool := decide (k = 0 ∨ k = 1 ∨ k = 7)
def brief (k : Int) : Bool := decide (k = 2 ∨ k = 3 ∨ k = 4)
def size (k : Int) (long : Bool) : Int :=
  if known k = false ∨ (long = false ∧ brief k = false) then 0
  else (if long then 16 else 12) + (if acks k then (if long then 8 else 4) else 0) + (if more k then 4 else 0)
def of5 (k : Int) : Bool × Bool × Bool × Bool × Bool :=
  if (k == 1) = true then (true, true, true, true, false) else if (k == 0) = true then (true, false, true, true, false) else if (k == 4) = true then (true, true, true, false, true)
  else if (k == 2) = true then (true, false, true, false, true) else if (k == 3) = true then (true, true, false, false, true) else if (k == 7) = true then (true, true, false, true, false)
  else if (k == 5) = true then (true, true, false, false, false) else if (k == 6) = true then (true, true, false, false, false) else if (k == 8) = true then (true, true, false, false, false)
  else if (k == 9) = true then (true, true, false, false, false) else (false, false, false, false, false)
theorem of5_eq (k : Int) : of5 k = (known k, acks k, bears k, more k, brief k) := by
  unfold of5 known acks bears more brief
  simp only [beq_iff_eq]
  repeat' split
  all_goals (try subst k)
  all_goals (first | decide | (simp only [Prod.mk.injEq, Bool.false_eq, decide_eq_false_iff_not]; omega))
structure H where
  src : Int
  dst : Int
  words : Int
  ccval : Int
  cover : Int
  sum : Int
  kind : Int
  long : Bool
  seq : Int
  deriving DecidableEq
abbrev H.v (h : H) : Value := .agg #[.int .i64 h.src, .int .i64 h.dst, .int .i64 h.words, .int .i64 h.ccval, .int .i64 h.cover, .int .i64 h.sum, .int .i64 h.kind, .bool h.long, .int .i64 h.seq]
def wi (n m : Int) : Bool := decide (0 ≤ n ∧ n ≤ m)
def most (long : Bool) : Int := if long = true then 281474976710656 else 16777216
/-- what is wrong with a beginning -/
def check (h : H) : Int :=
  if known h.kind = false then 7 else if h.long = false ∧ brief h.kind = false then 4
  else if wi h.src 65535 = false ∨ wi h.dst 65535 = false ∨ wi h.sum 65535 = false ∨ wi h.ccval 15 = false ∨ wi h.cover 15 = false then 3
  else if wi h.seq (most h.long - 1) = false ∨ wi h.words 255 = false then 3
  else if 4 * h.words < size h.kind h.long then 1 else 0
/-- a beginning as bytes -/
def put (h : H) : List UInt8 :=
  Oct.be (Oct.u64 h.src) 2 ++ Oct.be (Oct.u64 h.dst) 2 ++ Oct.be (Oct.u64 h.words) 1 ++ Oct.be (Oct.u64 (16 * h.ccval + h.cover)) 1 ++ Oct.be (Oct.u64 h.sum) 2 ++
    (if h.long = true then Oct.be (Oct.u64 (2 * h.kind + 1)) 1 ++ [0] ++ Oct.be (Oct.u64 h.seq) 6 else Oct.be (Oct.u64 (2 * h.kind)) 1 ++ Oct.be (Oct.u64 h.seq) 3)
end Go.Proofs.Ytodfcalaggfldaa.Head
namespace Go.Proofs.Ytodfcalaggfldaa.Head
set_option linter.unusedVariables false
set_option linter.unusedSimpArgs false

theorem wi_iff (n m : Int) : wi n m = true ↔ 0 ≤ n ∧ n ≤ m := by unfold wi; simp
theorem check_ok {h : H} (hc : check h = 0) : (0 ≤ h.kind ∧ h.kind ≤ 9) ∧ (h.long = true ∨ brief h.kind = true) ∧ (0 ≤ h.src ∧ h.src ≤ 65535) ∧ (0 ≤ h.dst ∧ h.dst ≤ 65535) ∧ (0 ≤ h.sum ∧ h.sum ≤ 65535) ∧ (0 ≤ h.ccval ∧ h.ccval ≤ 15) ∧ (0 ≤ h.cover ∧ h.cover ≤ 15) ∧
    (0 ≤ h.seq ∧ h.seq ≤ most h.long - 1) ∧ (0 ≤ h.words ∧ h.words ≤ 255) ∧ size h.kind h.long ≤ 4 * h.words := by
  unfold check at hc
  split at hc
  · omega
  · rename_i h1
    split at hc
    · omega
    · rename_i h2
      split at hc
      · omega
      · rename_i h3
        split at hc
        · omega
        · rename_i h4
          split at hc
          · omega
          · rename_i h5
            simp only [not_or, Bool.not_eq_false] at h1 h3 h4
            have h2' : h.long = true ∨ brief h.kind = true := by
              cases hl : h.long
              · cases hb : brief h.kind
                · exact absurd ⟨hl, hb⟩ h2
                · exact .inr rfl
              · exact .inl rfl
            have hk : 0 ≤ h.kind ∧ h.kind ≤ 9 := by unfold known at h1; simpa using h1
            refine ⟨hk, h2', (wi_iff _ _).1 h3.1, (wi_iff _ _).1 h3.2.1, (wi_iff _ _).1 h3.2.2.1, (wi_iff _ _).1 h3.2.2.2.1, (wi_iff _ _).1 h3.2.2.2.2, (wi_iff _ _).1 h4.1, (wi_iff _ _).1 h4.2, by omega⟩
theorem i64_or_join (i : Nat) (a b : Nat) (hi : i ≤ 40) (ha : a < 1048576) (hb : b < 2 ^ i) : bits .or .i64 ((a * 2 ^ i : Nat) : Int) (b : Int) = ((a * 2 ^ i + b : Nat) : Int) := by
  have hp : 2 ^ i ≤ 2 ^ 40 := Nat.pow_le_pow_right (by decide) hi
  have h2 : a * 2 ^ i ≤ 1048576 * 2 ^ 40 := Nat.mul_le_mul (by omega) hp
  have hj : a * 2 ^ i ||| b = a * 2 ^ i + b := nat_join i _ _ (by simp) hb
  have e1 : (BitVec.ofInt 64 ((a * 2 ^ i : Nat) : Int)).toNat = a * 2 ^ i := by
    rw [BitVec.ofInt_natCast, BitVec.toNat_ofNat]; exact Nat.mod_eq_of_lt (by omega)
  have e2 : (BitVec.ofInt 64 (b : Int)).toNat = b := by
    rw [BitVec.ofInt_natCast, BitVec.toNat_ofNat]; exact Nat.mod_eq_of_lt (by omega)
  show IntKind.i64.wrap ((BitVec.ofInt 64 ((a * 2 ^ i : Nat) : Int) ||| BitVec.ofInt 64 (b : Int)).toNat : Int) = _
  rw [BitVec.toNat_or, e1, e2, hj]
  exact IntWalk.i64_in _ (by omega)
theorem and15 (n : Int) : bits .and .i64 n 15 = n % 16 := by
  show IntKind.i64.wrap ((BitVec.ofInt 64 n &&& BitVec.ofInt 64 15).toNat : Int) = _
  rw [BitVec.toNat_and, show (BitVec.ofInt 64 15).toNat = 2 ^ 4 - 1 from by decide, Nat.and_two_pow_sub_one_eq_mod, BitVec.toNat_ofInt, IntKind.wrap_i64]
  omega
theorem and1 (n : Int) : bits .and .i64 n 1 = n % 2 := by
  show IntKind.i64.wrap ((BitVec.ofInt 64 n &&& BitVec.ofInt 64 1).toNat : Int) = _
  rw [BitVec.toNat_and, show (BitVec.ofInt 64 1).toNat = 2 ^ 1 - 1 from by decide, Nat.and_two_pow_sub_one_eq_mod, BitVec.toNat_ofInt, IntKind.wrap_i64]
  omega
theorem or_zero (a b : Nat) (ha : a < 1048576) (hb : b < 1048576) : (bits .or .i64 (a : Int) (b : Int) != 0) = !(a == 0 && b == 0) := by
  have e1 : (BitVec.ofInt 64 (a : Int)).toNat = a := by
    rw [BitVec.ofInt_natCast, BitVec.toNat_ofNat]; exact Nat.mod_eq_of_lt (by omega)
  have e2 : (BitVec.ofInt 64 (b : Int)).toNat = b := by
    rw [BitVec.ofInt_natCast, BitVec.toNat_ofNat]; exact Nat.mod_eq_of_lt (by omega)
  have hlt : a ||| b < 2 ^ 20 := Nat.or_lt_two_pow (by omega) (by omega)
  have e3 : bits .or .i64 (a : Int) (b : Int) = ((a ||| b : Nat) : Int) := by
    show IntKind.i64.wrap ((BitVec.ofInt 64 (a : Int) ||| BitVec.ofInt 64 (b : Int)).toNat : Int) = _
    rw [BitVec.toNat_or, e1, e2]
    exact IntWalk.i64_in _ (by omega)
  rw [e3, Bool.eq_iff_iff]
  simp only [bne_iff_ne, ne_eq, Bool.not_eq_true', Bool.and_eq_false_iff, beq_eq_false_iff_ne]
  have : ((a ||| b : Nat) : Int) = 0 ↔ a = 0 ∧ b = 0 := by rw [← Nat.or_eq_zero_iff]; omega
  rw [this]
  constructor
  · intro h
    by_cases h0 : a = 0
    · exact .inr fun h1 => h ⟨h0, h1⟩
    · exact .inl h0
  · rintro (h | h) ⟨h0, h1⟩
    · exact h h0
    · exact h h1
end Go.Proofs.Ytodfcalaggfldaa.Head
namespace Go.Proofs.Ytodfcalaggfldaa
set_option linter.unusedVariables false
set_option linter.unusedSimpArgs false
open Go.RowKit

theorem head_tab (a b c d e : Bool) (k : Int) (h : (a, b, c, d, e) = Head.of5 k) : Ending.returned (.agg #[.bool a, .bool b, .bool c, .bool d, .bool e]) = Ending.returned (.agg #[.bool (Head.known k), .bool (Head.acks k), .bool (Head.bears k), .bool (Head.more k), .bool (Head.brief k)]) := by
  rw [Head.of5_eq] at h
  simp only [Prod.mk.injEq] at h
  rw [h.1, h.2.1, h.2.2.1, h.2.2.2.1, h.2.2.2.2]
set_option maxHeartbeats 1000000 in
set_option maxRecDepth 100000 in
theorem head_of (k : Int) (w : World) : Calls Try.prog 105 #[.int .i64 k] w fun e w' => e = .returned (.agg #[.bool (Head.known k), .bool (Head.acks k), .bool (Head.bears k), .bool (Head.more k), .bool (Head.brief k)]) ∧ Below w.heap.size w w' := by
  go_enter Try.func105, Try.ntmps105
  go_wp2
  all_goals (go_returns; go_light)
  all_goals refine ⟨?_, by (repeat' (first | (with_reducible exact Below.refl _ _) | (with_reducible refine below_alloc ?_ _) | (with_reducible refine Below.drew ?_) | (with_reducible refine below_drewN ?_ _) | (with_reducible refine Below.setCell ?_ ?_ _) | (with_reducible assumption) | (with_reducible refine below_of ?_ (by assumption)) | omega | (simp only [World.size_alloc, World.size_setCell, World.size_drew, size_drewN] at *; omega) | (simp; omega)))⟩
  all_goals refine head_tab _ _ _ _ _ k ?_
  all_goals simp only [Head.of5, *, ↓reduceIte, Bool.false_eq_true]
end Go.Proofs.Ytodfcalaggfldaa
namespace Go.Proofs.Ytodfcalaggfldaa
set_option linter.unusedVariables false
set_option linter.unusedSimpArgs false
open Go.RowKit

theorem field_traits (a b c d e : Bool) (w : World) : (Instr.field 137 (.agg #[.bool a, .bool b, .bool c, .bool d, .bool e]) 1).run Try.prog w = .ok (.bool b) w ∧ (Instr.field 137 (.agg #[.bool a, .bool b, .bool c, .bool d, .bool e]) 2).run Try.prog w = .ok (.bool c) w :=
  ⟨by kernel_rfl, by kernel_rfl⟩
theorem head_acks (k : Int) (w : World) : Calls Try.prog 74 #[.int .i64 k] w fun e w' => e = .returned (.bool (Head.acks k)) ∧ Below w.heap.size w w' := by
  have F := fun a b c d e w => (field_traits a b c d e w).1
  go_enter Try.func74, Try.ntmps74
  go_wp2_with (go_at_call 105; refine (head_of _ _).mono ?_; rintro e w1 ⟨rfl, hb⟩; have hz := hb.size; (try simp only [World.size_alloc, World.size_setCell, World.size_drew, size_drewN] at hz))
  go_returns
  exact ⟨rfl, hb⟩
theorem head_bears (k : Int) (w : World) : Calls Try.prog 109 #[.int .i64 k] w fun e w' => e = .returned (.bool (Head.bears k)) ∧ Below w.heap.size w w' := by
  have F := fun a b c d e w => (field_traits a b c d e w).2
  go_enter Try.func109, Try.ntmps109
  go_wp2_with (go_at_call 105; refine (head_of _ _).mono ?_; rintro e w1 ⟨rfl, hb⟩; have hz := hb.size; (try simp only [World.size_alloc, World.size_setCell, World.size_drew, size_drewN] at hz))
  go_returns
  exact ⟨rfl, hb⟩
theorem head_within (n m : Int) (w : World) : Calls Try.prog 106 #[.int .i64 n, .int .i64 m] w fun e w' => e = .returned (.bool (Head.wi n m)) ∧ w = w' := by
  by_cases h1 : 0 ≤ n
  · have e1 : decide (0 ≤ n) = true := by simpa using h1
    go_enter Try.func106, Try.ntmps106
    go_wp2
    go_ret
    exact ⟨ret_b (by simp [Head.wi, h1]), rfl⟩
  · have e1 : decide (0 ≤ n) = false := by simpa using h1
    go_enter Try.func106, Try.ntmps106
    go_wp2
    go_ret
    exact ⟨ret_b (by simp [Head.wi]; omega), rfl⟩
theorem head_pick (b : Bool) (x y : Int) (w : World) : Calls Try.prog 107 #[.bool b, .int .i64 x, .int .i64 y] w fun e w' => e = .returned (.int .i64 (if b = true then x else y)) ∧ w = w' := by
  cases b
  · go_enter Try.func107, Try.ntmps107
    go_wp2
    go_ret
    exact ⟨rfl, rfl⟩
  · go_enter Try.func107, Try.ntmps107
    go_wp2
    go_ret
    exact ⟨rfl, rfl⟩
theorem head_size (k : Int) (long : Bool) (w : World) : Calls Try.prog 90 #[.int .i64 k, .bool long] w fun e w' => e = .returned (.int .i64 (Head.size k long)) ∧ Below w.heap.size w w' := by
  have HS : Hid (∀ r, (if Head.known k = false ∨ (long = false ∧ Head.brief k = false) then 0 else (if long then 16 else 12) + (if Head.acks k then (if long then 8 else 4) else 0) + (if Head.more k then 4 else 0)) = r → Head.size k long = r) := fun r h => h
  generalize Head.size k long = r at *
  go_enter Try.func90, Try.ntmps90
  go_wp2_with fail
  refine (head_of _ _).mono ?_
  generalize Head.known k = a at *
  generalize Head.acks k = b at *
  generalize Head.bears k = c at *
  generalize Head.more k = d at *
  generalize Head.brief k = e at *
  rintro e' w1 ⟨rfl, hb⟩
  have hz := hb.size
  cases a
  · go_wp2
    all_goals (go_returns; go_light)
    all_goals exact ⟨ret_i (by rw [HS.out 0 (by simp)]), by (repeat' (first | (with_reducible exact Below.refl _ _) | (with_reducible refine below_alloc ?_ _) | (with_reducible refine Below.drew ?_) | (with_reducible refine below_drewN ?_ _) | (with_reducible refine Below.setCell ?_ ?_ _) | (with_reducible assumption) | (with_reducible refine below_of ?_ (by assumption)) | omega | (simp only [World.size_alloc, World.size_setCell, World.size_drew, size_drewN] at *; omega) | (simp; omega)))⟩
  · cases long
    · cases e
      · go_wp2
        all_goals (go_returns; go_light)
        all_goals exact ⟨ret_i (by rw [HS.out 0 (by simp)]), by (repeat' (first | (with_reducible exact Below.refl _ _) | (with_reducible refine below_alloc ?_ _) | (with_reducible refine Below.drew ?_) | (with_reducible refine below_drewN ?_ _) | (with_reducible refine Below.setCell ?_ ?_ _) | (with_reducible assumption) | (with_reducible refine below_of ?_ (by assumption)) | omega | (simp only [World.size_alloc, World.size_setCell, World.size_drew, size_drewN] at *; omega) | (simp; omega)))⟩
      · go_wp2_with (go_at_call 107; refine (head_pick _ _ _ _).mono ?_; rintro e w1 ⟨rfl, rfl⟩)
        all_goals (go_returns; go_light)
        all_goals exact ⟨ret_i (by rw [HS.out _ (by simp [*]; rfl)]), by (repeat' (first | (with_reducible exact Below.refl _ _) | (with_reducible refine below_alloc ?_ _) | (with_reducible refine Below.drew ?_) | (with_reducible refine below_drewN ?_ _) | (with_reducible refine Below.setCell ?_ ?_ _) | (with_reducible assumption) | (with_reducible refine below_of ?_ (by assumption)) | omega | (simp only [World.size_alloc, World.size_setCell, World.size_drew, size_drewN] at *; omega) | (simp; omega)))⟩
    · go_wp2_with (go_at_call 107; refine (head_pick _ _ _ _).mono ?_; rintro e w1 ⟨rfl, rfl⟩)
      all_goals (go_returns; go_light)
      all_goals exact ⟨ret_i (by rw [HS.out _ (by simp [*]; rfl)]), by (repeat' (first | (with_reducible exact Below.refl _ _) | (with_reducible refine below_alloc ?_ _) | (with_reducible refine Below.drew ?_) | (with_reducible refine below_drewN ?_ _) | (with_reducible refine Below.setCell ?_ ?_ _) | (with_reducible assumption) | (with_reducible refine below_of ?_ (by assumption)) | omega | (simp only [World.size_alloc, World.size_setCell, World.size_drew, size_drewN] at *; omega) | (simp; omega)))⟩
end Go.Proofs.Ytodfcalaggfldaa
namespace Go.Proofs.Ytodfcalaggfldaa
set_option linter.unusedVariables false
set_option linter.unusedSimpArgs false
open Go.RowKit

set_option maxRecDepth 100000 in
set_option maxHeartbeats 4000000 in
theorem head_check_long (src dst words ccval cover sum kind seq : Int) (w : World) (hk : Head.known kind = true) :
    Calls Try.prog 55 #[(⟨src, dst, words, ccval, cover, sum, kind, true, seq⟩ : Head.H).v] w fun e w' => e = .returned (.int .i64 (Head.check ⟨src, dst, words, ccval, cover, sum, kind, true, seq⟩)) ∧ Below w.heap.size w w' := by
  have hcheck : Head.check ⟨src, dst, words, ccval, cover, sum, kind, true, seq⟩ = if Head.wi src 65535 = false then 3 else if Head.wi dst 65535 = false then 3 else if Head.wi sum 65535 = false then 3 else if Head.wi ccval 15 = false then 3 else if Head.wi cover 15 = false then 3
      else if Head.wi seq 281474976710655 = false then 3 else if Head.wi words 255 = false then 3 else if 4 * words < Head.size kind true then 1 else 0 := by
    unfold Head.check
    simp only [hk, Bool.true_eq_false, Bool.false_eq_true, false_and, and_false, if_false, Head.most, if_true]
    cases Head.wi src 65535 <;> cases Head.wi dst 65535 <;> cases Head.wi sum 65535 <;> cases Head.wi ccval 15 <;> cases Head.wi cover 15 <;> simp
    cases Head.wi words 255 <;> simp
  rw [hcheck]
  clear hcheck
  have HK := Lib.hid hk
  have hw : Head.wi words 255 = true → 0 ≤ words ∧ words ≤ 255 := by unfold Head.wi; simp only [decide_eq_true_eq]; exact id
  have HW := Lib.hid hw
  clear hk hw
  generalize hw1 : Head.wi src 65535 = b1
  generalize hw2 : Head.wi dst 65535 = b2
  generalize hw3 : Head.wi sum 65535 = b3
  generalize hw4 : Head.wi ccval 15 = b4
  generalize hw5 : Head.wi cover 15 = b5
  generalize hw6 : Head.wi seq 281474976710655 = b6
  generalize hw7 : Head.wi words 255 = b7 at HW
  generalize hsz : Head.size kind true = n
  have H1 := Lib.hid hw1
  have H2 := Lib.hid hw2
  have H3 := Lib.hid hw3
  have H4 := Lib.hid hw4
  have H5 := Lib.hid hw5
  have H6 := Lib.hid hw6
  have H7 := Lib.hid hw7
  have H8 := Lib.hid hsz
  clear hw1 hw2 hw3 hw4 hw5 hw6 hw7 hsz
  go_enter Try.func55, Try.ntmps55
  go_wp2_with fail
  refine (head_of _ _).mono ?_
  rw [HK.out]
  rintro e w1 ⟨rfl, hb⟩; have hz := hb.size; (try simp only [World.size_alloc, World.size_setCell, World.size_drew, size_drewN] at hz); apply own_step (B := w.heap.size) hb; (focus (repeat (first | (with_reducible assumption) | (with_reducible exact own_new _ _ _) | ((with_reducible apply own_new'); focus (first | omega | (simp; done) | (simp; omega))) | (with_reducible apply own_drewN) | (with_reducible apply own_drew) | (with_reducible apply own_alloc) | (with_reducible apply own_setT) | ((with_reducible apply own_set_otherH); focus (first | (simp; done) | (simp; omega)))))); intro hO0; have hk0 := hO0.2.1; have hl0 := hO0.1; have hf0 := hO0.2.2; (try simp only [List.setIfInBounds_toArray, List.set_cons_zero, List.set_cons_succ] at hO0 hk0)
  cases b1
  · go_wp2_with (go_at_call 106; refine (head_within _ _ _).mono ?_; (first | rw [H1.out] | rw [H2.out] | rw [H3.out] | rw [H4.out] | rw [H5.out] | rw [H6.out] | rw [H7.out]); rintro e w1 ⟨rfl, rfl⟩)
    go_returns
    exact ⟨rfl, by (repeat' (first | (with_reducible exact Below.refl _ _) | (with_reducible refine below_alloc ?_ _) | (with_reducible refine Below.drew ?_) | (with_reducible refine below_drewN ?_ _) | (with_reducible refine Below.setCell ?_ ?_ _) | (with_reducible assumption) | (with_reducible refine below_of ?_ (by assumption)) | omega | (simp only [World.size_alloc, World.size_setCell, World.size_drew, size_drewN] at *; omega) | (simp; omega)))⟩
  · skip
    cases b2
    · go_wp2_with (go_at_call 106; refine (head_within _ _ _).mono ?_; (first | rw [H1.out] | rw [H2.out] | rw [H3.out] | rw [H4.out] | rw [H5.out] | rw [H6.out] | rw [H7.out]); rintro e w1 ⟨rfl, rfl⟩)
      go_returns
      exact ⟨rfl, by (repeat' (first | (with_reducible exact Below.refl _ _) | (with_reducible refine below_alloc ?_ _) | (with_reducible refine Below.drew ?_) | (with_reducible refine below_drewN ?_ _) | (with_reducible refine Below.setCell ?_ ?_ _) | (with_reducible assumption) | (with_reducible refine below_of ?_ (by assumption)) | omega | (simp only [World.size_alloc, World.size_setCell, World.size_drew, size_drewN] at *; omega) | (simp; omega)))⟩
    · skip
      cases b3
      · go_wp2_with (go_at_call 106; refine (head_within _ _ _).mono ?_; (first | rw [H1.out] | rw [H2.out] | rw [H3.out] | rw [H4.out] | rw [H5.out] | rw [H6.out] | rw [H7.out]); rintro e w1 ⟨rfl, rfl⟩)
        go_returns
        exact ⟨rfl, by (repeat' (first | (with_reducible exact Below.refl _ _) | (with_reducible refine below_alloc ?_ _) | (with_reducible refine Below.drew ?_) | (with_reducible refine below_drewN ?_ _) | (with_reducible refine Below.setCell ?_ ?_ _) | (with_reducible assumption) | (with_reducible refine below_of ?_ (by assumption)) | omega | (simp only [World.size_alloc, World.size_setCell, World.size_drew, size_drewN] at *; omega) | (simp; omega)))⟩
      · skip
        cases b4
        · go_wp2_with (go_at_call 106; refine (head_within _ _ _).mono ?_; (first | rw [H1.out] | rw [H2.out] | rw [H3.out] | rw [H4.out] | rw [H5.out] | rw [H6.out] | rw [H7.out]); rintro e w1 ⟨rfl, rfl⟩)
          go_returns
          exact ⟨rfl, by (repeat' (first | (with_reducible exact Below.refl _ _) | (with_reducible refine below_alloc ?_ _) | (with_reducible refine Below.drew ?_) | (with_reducible refine below_drewN ?_ _) | (with_reducible refine Below.setCell ?_ ?_ _) | (with_reducible assumption) | (with_reducible refine below_of ?_ (by assumption)) | omega | (simp only [World.size_alloc, World.size_setCell, World.size_drew, size_drewN] at *; omega) | (simp; omega)))⟩
        · skip
          cases b5
          · go_wp2_with (go_at_call 106; refine (head_within _ _ _).mono ?_; (first | rw [H1.out] | rw [H2.out] | rw [H3.out] | rw [H4.out] | rw [H5.out] | rw [H6.out] | rw [H7.out]); rintro e w1 ⟨rfl, rfl⟩)
            go_returns
            exact ⟨rfl, by (repeat' (first | (with_reducible exact Below.refl _ _) | (with_reducible refine below_alloc ?_ _) | (with_reducible refine Below.drew ?_) | (with_reducible refine below_drewN ?_ _) | (with_reducible refine Below.setCell ?_ ?_ _) | (with_reducible assumption) | (with_reducible refine below_of ?_ (by assumption)) | omega | (simp only [World.size_alloc, World.size_setCell, World.size_drew, size_drewN] at *; omega) | (simp; omega)))⟩
          · skip
            have h6 := H6.out
            go_wp2_with (go_at_call 106; refine (head_within _ _ _).mono ?_; (first | rw [H1.out] | rw [H2.out] | rw [H3.out] | rw [H4.out] | rw [H5.out] | rw [H6.out] | rw [H7.out]); rintro e w1 ⟨rfl, rfl⟩)
            cases b6
            · go_quiet (first | (go_at_call 107; first | exact quiet_left (head_pick _ _ _ _) | exact quiet_add_left (head_pick _ _ _ _)) | (go_at_call 106; first | exact quiet_left (head_within _ _ _) | exact quiet_add_left (head_within _ _ _)))
              go_wp2
              go_returns
              exact ⟨rfl, by (repeat' (first | (with_reducible exact Below.refl _ _) | (with_reducible refine below_alloc ?_ _) | (with_reducible refine Below.drew ?_) | (with_reducible refine below_drewN ?_ _) | (with_reducible refine Below.setCell ?_ ?_ _) | (with_reducible assumption) | (with_reducible refine below_of ?_ (by assumption)) | omega | (simp only [World.size_alloc, World.size_setCell, World.size_drew, size_drewN] at *; omega) | (simp; omega)))⟩
            · go_quiet (first | (go_at_call 107; first | exact quiet_left (head_pick _ _ _ _) | exact quiet_add_left (head_pick _ _ _ _)) | (go_at_call 106; first | exact quiet_left (head_within _ _ _) | exact quiet_add_left (head_within _ _ _)))
              clear h6
              go_wp2_with fail
              refine (head_within _ _ _).mono ?_
              rw [H7.out]
              rintro e w1 ⟨rfl, rfl⟩
              cases b7
              · go_wp2
                go_returns
                exact ⟨rfl, by (repeat' (first | (with_reducible exact Below.refl _ _) | (with_reducible refine below_alloc ?_ _) | (with_reducible refine Below.drew ?_) | (with_reducible refine below_drewN ?_ _) | (with_reducible refine Below.setCell ?_ ?_ _) | (with_reducible assumption) | (with_reducible refine below_of ?_ (by assumption)) | omega | (simp only [World.size_alloc, World.size_setCell, World.size_drew, size_drewN] at *; omega) | (simp; omega)))⟩
              · obtain ⟨hw0, hw1⟩ := HW.out rfl
                have hwr : IntKind.i64.wrap (4 * words) = 4 * words := IntWalk.i64_in _ (by omega)
                by_cases hlt : 4 * words < n
                · have hd : decide (4 * words < n) = true := by simpa using hlt
                  go_wp2_with fail
                  go_region_held3 (fun w' => w'.cell? ⟨w.heap.size, 2, none⟩ = some (.int .i64 words) ∧ w'.cell? ⟨w.heap.size, 6, none⟩ = some (.int .i64 kind) ∧ w'.cell? ⟨w.heap.size, 7, none⟩ = some (.bool true)) (go_keep) (first | (go_at_call 90; refine (head_size _ _ _).mono ?_; rw [H8.out]; rintro e w3 ⟨rfl, hb⟩; have hz := hb.size; (try simp only [World.size_alloc, World.size_setCell, World.size_drew, size_drewN] at hz); apply own_step (B := w.heap.size) hb; (focus (repeat (first | (with_reducible assumption) | (with_reducible exact own_new _ _ _) | ((with_reducible apply own_new'); focus (first | omega | (simp; done) | (simp; omega))) | (with_reducible apply own_drewN) | (with_reducible apply own_drew) | (with_reducible apply own_alloc) | (with_reducible apply own_setT) | ((with_reducible apply own_set_otherH); focus (first | (simp; done) | (simp; omega)))))); intro hO0; have hk0 := hO0.2.1; have hl0 := hO0.1; have hf0 := hO0.2.2; (try simp only [List.setIfInBounds_toArray, List.set_cons_zero, List.set_cons_succ] at hO0 hk0)))
                  go_wp2
                  go_returns
                  exact ⟨ret_i (by simp [hlt]), by (repeat' (first | (with_reducible exact Below.refl _ _) | (with_reducible refine below_alloc ?_ _) | (with_reducible refine Below.drew ?_) | (with_reducible refine below_drewN ?_ _) | (with_reducible refine Below.setCell ?_ ?_ _) | (with_reducible assumption) | (with_reducible refine below_of ?_ (by assumption)) | omega | (simp only [World.size_alloc, World.size_setCell, World.size_drew, size_drewN] at *; omega) | (simp; omega)))⟩
                · have hd : decide (4 * words < n) = false := by simpa using hlt
                  go_wp2_with fail
                  go_region_held3 (fun w' => w'.cell? ⟨w.heap.size, 2, none⟩ = some (.int .i64 words) ∧ w'.cell? ⟨w.heap.size, 6, none⟩ = some (.int .i64 kind) ∧ w'.cell? ⟨w.heap.size, 7, none⟩ = some (.bool true)) (go_keep) (first | (go_at_call 90; refine (head_size _ _ _).mono ?_; rw [H8.out]; rintro e w3 ⟨rfl, hb⟩; have hz := hb.size; (try simp only [World.size_alloc, World.size_setCell, World.size_drew, size_drewN] at hz); apply own_step (B := w.heap.size) hb; (focus (repeat (first | (with_reducible assumption) | (with_reducible exact own_new _ _ _) | ((with_reducible apply own_new'); focus (first | omega | (simp; done) | (simp; omega))) | (with_reducible apply own_drewN) | (with_reducible apply own_drew) | (with_reducible apply own_alloc) | (with_reducible apply own_setT) | ((with_reducible apply own_set_otherH); focus (first | (simp; done) | (simp; omega)))))); intro hO0; have hk0 := hO0.2.1; have hl0 := hO0.1; have hf0 := hO0.2.2; (try simp only [List.setIfInBounds_toArray, List.set_cons_zero, List.set_cons_succ] at hO0 hk0)))
                  go_wp2
                  go_returns
                  exact ⟨ret_i (by simp [hlt]), by (repeat' (first | (with_reducible exact Below.refl _ _) | (with_reducible refine below_alloc ?_ _) | (with_reducible refine Below.drew ?_) | (with_reducible refine below_drewN ?_ _) | (with_reducible refine Below.setCell ?_ ?_ _) | (with_reducible assumption) | (with_reducible refine below_of ?_ (by assumption)) | omega | (simp only [World.size_alloc, World.size_setCell, World.size_drew, size_drewN] at *; omega) | (simp; omega)))⟩
set_option maxRecDepth 100000 in
set_option maxHeartbeats 4000000 in
theorem head_check_short (src dst words ccval cover sum kind seq : Int) (w : World) (hk : Head.known kind = true) (hbr : Head.brief kind = true) :
    Calls Try.prog 55 #[(⟨src, dst, words, ccval, cover, sum, kind, false, seq⟩ : Head.H).v] w fun e w' => e = .returned (.int .i64 (Head.check ⟨src, dst, words, ccval, cover, sum, kind, false, seq⟩)) ∧ Below w.heap.size w w' := by
  have hcheck : Head.check ⟨src, dst, words, ccval, cover, sum, kind, false, seq⟩ = if Head.wi src 65535 = false then 3 else if Head.wi dst 65535 = false then 3 else if Head.wi sum 65535 = false then 3 else if Head.wi ccval 15 = false then 3 else if Head.wi cover 15 = false then 3
      else if Head.wi seq 16777215 = false then 3 else if Head.wi words 255 = false then 3 else if 4 * words < Head.size kind false then 1 else 0 := by
    unfold Head.check
    simp only [hk, hbr, Bool.true_eq_false, Bool.false_eq_true, false_and, and_false, if_false, Head.most, if_true]
    cases Head.wi src 65535 <;> cases Head.wi dst 65535 <;> cases Head.wi sum 65535 <;> cases Head.wi ccval 15 <;> cases Head.wi cover 15 <;> simp
    cases Head.wi words 255 <;> simp
  rw [hcheck]
  clear hcheck
  have HK := Lib.hid hk
  have HB := Lib.hid hbr
  clear hbr
  have hw : Head.wi words 255 = true → 0 ≤ words ∧ words ≤ 255 := by unfold Head.wi; simp only [decide_eq_true_eq]; exact id
  have HW := Lib.hid hw
  clear hk hw
  generalize hw1 : Head.wi src 65535 = b1
  generalize hw2 : Head.wi dst 65535 = b2
  generalize hw3 : Head.wi sum 65535 = b3
  generalize hw4 : Head.wi ccval 15 = b4
  generalize hw5 : Head.wi cover 15 = b5
  generalize hw6 : Head.wi seq 16777215 = b6
  generalize hw7 : Head.wi words 255 = b7 at HW
  generalize hsz : Head.size kind false = n
  have H1 := Lib.hid hw1
  have H2 := Lib.hid hw2
  have H3 := Lib.hid hw3
  have H4 := Lib.hid hw4
  have H5 := Lib.hid hw5
  have H6 := Lib.hid hw6
  have H7 := Lib.hid hw7
  have H8 := Lib.hid hsz
  clear hw1 hw2 hw3 hw4 hw5 hw6 hw7 hsz
  go_enter Try.func55, Try.ntmps55
  go_wp2_with fail
  refine (head_of _ _).mono ?_
  rw [HK.out, HB.out]
  rintro e w1 ⟨rfl, hb⟩; have hz := hb.size; (try simp only [World.size_alloc, World.size_setCell, World.size_drew, size_drewN] at hz); apply own_step (B := w.heap.size) hb; (focus (repeat (first | (with_reducible assumption) | (with_reducible exact own_new _ _ _) | ((with_reducible apply own_new'); focus (first | omega | (simp; done) | (simp; omega))) | (with_reducible apply own_drewN) | (with_reducible apply own_drew) | (with_reducible apply own_alloc) | (with_reducible apply own_setT) | ((with_reducible apply own_set_otherH); focus (first | (simp; done) | (simp; omega)))))); intro hO0; have hk0 := hO0.2.1; have hl0 := hO0.1; have hf0 := hO0.2.2; (try simp only [List.setIfInBounds_toArray, List.set_cons_zero, List.set_cons_succ] at hO0 hk0)
  cases b1
  · go_wp2_with (go_at_call 106; refine (head_within _ _ _).mono ?_; (first | rw [H1.out] | rw [H2.out] | rw [H3.out] | rw [H4.out] | rw [H5.out] | rw [H6.out] | rw [H7.out]); rintro e w1 ⟨rfl, rfl⟩)
    go_returns
    exact ⟨rfl, by (repeat' (first | (with_reducible exact Below.refl _ _) | (with_reducible refine below_alloc ?_ _) | (with_reducible refine Below.drew ?_) | (with_reducible refine below_drewN ?_ _) | (with_reducible refine Below.setCell ?_ ?_ _) | (with_reducible assumption) | (with_reducible refine below_of ?_ (by assumption)) | omega | (simp only [World.size_alloc, World.size_setCell, World.size_drew, size_drewN] at *; omega) | (simp; omega)))⟩
  · skip
    cases b2
    · go_wp2_with (go_at_call 106; refine (head_within _ _ _).mono ?_; (first | rw [H1.out] | rw [H2.out] | rw [H3.out] | rw [H4.out] | rw [H5.out] | rw [H6.out] | rw [H7.out]); rintro e w1 ⟨rfl, rfl⟩)
      go_returns
      exact ⟨rfl, by (repeat' (first | (with_reducible exact Below.refl _ _) | (with_reducible refine below_alloc ?_ _) | (with_reducible refine Below.drew ?_) | (with_reducible refine below_drewN ?_ _) | (with_reducible refine Below.setCell ?_ ?_ _) | (with_reducible assumption) | (with_reducible refine below_of ?_ (by assumption)) | omega | (simp only [World.size_alloc, World.size_setCell, World.size_drew, size_drewN] at *; omega) | (simp; omega)))⟩
    · skip
      cases b3
      · go_wp2_with (go_at_call 106; refine (head_within _ _ _).mono ?_; (first | rw [H1.out] | rw [H2.out] | rw [H3.out] | rw [H4.out] | rw [H5.out] | rw [H6.out] | rw [H7.out]); rintro e w1 ⟨rfl, rfl⟩)
        go_returns
        exact ⟨rfl, by (repeat' (first | (with_reducible exact Below.refl _ _) | (with_reducible refine below_alloc ?_ _) | (with_reducible refine Below.drew ?_) | (with_reducible refine below_drewN ?_ _) | (with_reducible refine Below.setCell ?_ ?_ _) | (with_reducible assumption) | (with_reducible refine below_of ?_ (by assumption)) | omega | (simp only [World.size_alloc, World.size_setCell, World.size_drew, size_drewN] at *; omega) | (simp; omega)))⟩
      · skip
        cases b4
        · go_wp2_with (go_at_call 106; refine (head_within _ _ _).mono ?_; (first | rw [H1.out] | rw [H2.out] | rw [H3.out] | rw [H4.out] | rw [H5.out] | rw [H6.out] | rw [H7.out]); rintro e w1 ⟨rfl, rfl⟩)
          go_returns
          exact ⟨rfl, by (repeat' (first | (with_reducible exact Below.refl _ _) | (with_reducible refine below_alloc ?_ _) | (with_reducible refine Below.drew ?_) | (with_reducible refine below_drewN ?_ _) | (with_reducible refine Below.setCell ?_ ?_ _) | (with_reducible assumption) | (with_reducible refine below_of ?_ (by assumption)) | omega | (simp only [World.size_alloc, World.size_setCell, World.size_drew, size_drewN] at *; omega) | (simp; omega)))⟩
        · skip
          cases b5
          · go_wp2_with (go_at_call 106; refine (head_within _ _ _).mono ?_; (first | rw [H1.out] | rw [H2.out] | rw [H3.out] | rw [H4.out] | rw [H5.out] | rw [H6.out] | rw [H7.out]); rintro e w1 ⟨rfl, rfl⟩)
            go_returns
            exact ⟨rfl, by (repeat' (first | (with_reducible exact Below.refl _ _) | (with_reducible refine below_alloc ?_ _) | (with_reducible refine Below.drew ?_) | (with_reducible refine below_drewN ?_ _) | (with_reducible refine Below.setCell ?_ ?_ _) | (with_reducible assumption) | (with_reducible refine below_of ?_ (by assumption)) | omega | (simp only [World.size_alloc, World.size_setCell, World.size_drew, size_drewN] at *; omega) | (simp; omega)))⟩
          · skip
            have h6 := H6.out
            go_wp2_with (go_at_call 106; refine (head_within _ _ _).mono ?_; (first | rw [H1.out] | rw [H2.out] | rw [H3.out] | rw [H4.out] | rw [H5.out] | rw [H6.out] | rw [H7.out]); rintro e w1 ⟨rfl, rfl⟩)
            cases b6
            · go_quiet (first | (go_at_call 107; first | exact quiet_left (head_pick _ _ _ _) | exact quiet_add_left (head_pick _ _ _ _)) | (go_at_call 106; first | exact quiet_left (head_within _ _ _) | exact quiet_add_left (head_within _ _ _)))
              go_wp2
              go_returns
              exact ⟨rfl, by (repeat' (first | (with_reducible exact Below.refl _ _) | (with_reducible refine below_alloc ?_ _) | (with_reducible refine Below.drew ?_) | (with_reducible refine below_drewN ?_ _) | (with_reducible refine Below.setCell ?_ ?_ _) | (with_reducible assumption) | (with_reducible refine below_of ?_ (by assumption)) | omega | (simp only [World.size_alloc, World.size_setCell, World.size_drew, size_drewN] at *; omega) | (simp; omega)))⟩
            · go_quiet (first | (go_at_call 107; first | exact quiet_left (head_pick _ _ _ _) | exact quiet_add_left (head_pick _ _ _ _)) | (go_at_call 106; first | exact quiet_left (head_within _ _ _) | exact quiet_add_left (head_within _ _ _)))
              clear h6
              go_wp2_with fail
              refine (head_within _ _ _).mono ?_
              rw [H7.out]
              rintro e w1 ⟨rfl, rfl⟩
              cases b7
              · go_wp2
                go_returns
                exact ⟨rfl, by (repeat' (first | (with_reducible exact Below.refl _ _) | (with_reducible refine below_alloc ?_ _) | (with_reducible refine Below.drew ?_) | (with_reducible refine below_drewN ?_ _) | (with_reducible refine Below.setCell ?_ ?_ _) | (with_reducible assumption) | (with_reducible refine below_of ?_ (by assumption)) | omega | (simp only [World.size_alloc, World.size_setCell, World.size_drew, size_drewN] at *; omega) | (simp; omega)))⟩
              · obtain ⟨hw0, hw1⟩ := HW.out rfl
                have hwr : IntKind.i64.wrap (4 * words) = 4 * words := IntWalk.i64_in _ (by omega)
                by_cases hlt : 4 * words < n
                · have hd : decide (4 * words < n) = true := by simpa using hlt
                  go_wp2_with fail
                  go_region_held3 (fun w' => w'.cell? ⟨w.heap.size, 2, none⟩ = some (.int .i64 words) ∧ w'.cell? ⟨w.heap.size, 6, none⟩ = some (.int .i64 kind) ∧ w'.cell? ⟨w.heap.size, 7, none⟩ = some (.bool false)) (go_keep) (first | (go_at_call 90; refine (head_size _ _ _).mono ?_; rw [H8.out]; rintro e w3 ⟨rfl, hb⟩; have hz := hb.size; (try simp only [World.size_alloc, World.size_setCell, World.size_drew, size_drewN] at hz); apply own_step (B := w.heap.size) hb; (focus (repeat (first | (with_reducible assumption) | (with_reducible exact own_new _ _ _) | ((with_reducible apply own_new'); focus (first | omega | (simp; done) | (simp; omega))) | (with_reducible apply own_drewN) | (with_reducible apply own_drew) | (with_reducible apply own_alloc) | (with_reducible apply own_setT) | ((with_reducible apply own_set_otherH); focus (first | (simp; done) | (simp; omega)))))); intro hO0; have hk0 := hO0.2.1; have hl0 := hO0.1; have hf0 := hO0.2.2; (try simp only [List.setIfInBounds_toArray, List.set_cons_zero, List.set_cons_succ] at hO0 hk0)))
                  go_wp2
                  go_returns
                  exact ⟨ret_i (by simp [hlt]), by (repeat' (first | (with_reducible exact Below.refl _ _) | (with_reducible refine below_alloc ?_ _) | (with_reducible refine Below.drew ?_) | (with_reducible refine below_drewN ?_ _) | (with_reducible refine Below.setCell ?_ ?_ _) | (with_reducible assumption) | (with_reducible refine below_of ?_ (by assumption)) | omega | (simp only [World.size_alloc, World.size_setCell, World.size_drew, size_drewN] at *; omega) | (simp; omega)))⟩
                · have hd : decide (4 * words < n) = false := by simpa using hlt
                  go_wp2_with fail
                  go_region_held3 (fun w' => w'.cell? ⟨w.heap.size, 2, none⟩ = some (.int .i64 words) ∧ w'.cell? ⟨w.heap.size, 6, none⟩ = some (.int .i64 kind) ∧ w'.cell? ⟨w.heap.size, 7, none⟩ = some (.bool false)) (go_keep) (first | (go_at_call 90; refine (head_size _ _ _).mono ?_; rw [H8.out]; rintro e w3 ⟨rfl, hb⟩; have hz := hb.size; (try simp only [World.size_alloc, World.size_setCell, World.size_drew, size_drewN] at hz); apply own_step (B := w.heap.size) hb; (focus (repeat (first | (with_reducible assumption) | (with_reducible exact own_new _ _ _) | ((with_reducible apply own_new'); focus (first | omega | (simp; done) | (simp; omega))) | (with_reducible apply own_drewN) | (with_reducible apply own_drew) | (with_reducible apply own_alloc) | (with_reducible apply own_setT) | ((with_reducible apply own_set_otherH); focus (first | (simp; done) | (simp; omega)))))); intro hO0; have hk0 := hO0.2.1; have hl0 := hO0.1; have hf0 := hO0.2.2; (try simp only [List.setIfInBounds_toArray, List.set_cons_zero, List.set_cons_succ] at hO0 hk0)))
                  go_wp2
                  go_returns
                  exact ⟨ret_i (by simp [hlt]), by (repeat' (first | (with_reducible exact Below.refl _ _) | (with_reducible refine below_alloc ?_ _) | (with_reducible refine Below.drew ?_) | (with_reducible refine below_drewN ?_ _) | (with_reducible refine Below.setCell ?_ ?_ _) | (with_reducible assumption) | (with_reducible refine below_of ?_ (by assumption)) | omega | (simp only [World.size_alloc, World.size_setCell, World.size_drew, size_drewN] at *; omega) | (simp; omega)))⟩
set_option maxRecDepth 100000 in
set_option maxHeartbeats 1000000 in
theorem head_check (h : Head.H) (w : World) : Calls Try.prog 55 #[h.v] w fun e w' => e = .returned (.int .i64 (Head.check h)) ∧ Below w.heap.size w w' := by
  obtain ⟨src, dst, words, ccval, cover, sum, kind, long, seq⟩ := h
  by_cases hk : Head.known kind = true
  · cases long
    · by_cases hbr : Head.brief kind = true
      · exact head_check_short src dst words ccval cover sum kind seq w hk hbr
      · rw [Bool.not_eq_true] at hbr
        have hcheck : Head.check ⟨src, dst, words, ccval, cover, sum, kind, false, seq⟩ = 4 := by simp [Head.check, hk, hbr]
        rw [hcheck]
        have HK := Lib.hid hk
        have HB := Lib.hid hbr
        clear hk hbr hcheck
        go_enter Try.func55, Try.ntmps55
        go_wp2_with fail
        refine (head_of _ _).mono ?_
        rw [HK.out, HB.out]
        rintro e w1 ⟨rfl, hb⟩; have hz := hb.size; (try simp only [World.size_alloc, World.size_setCell, World.size_drew, size_drewN] at hz); apply own_step (B := w.heap.size) hb; (focus (repeat (first | (with_reducible assumption) | (with_reducible exact own_new _ _ _) | ((with_reducible apply own_new'); focus (first | omega | (simp; done) | (simp; omega))) | (with_reducible apply own_drewN) | (with_reducible apply own_drew) | (with_reducible apply own_alloc) | (with_reducible apply own_setT) | ((with_reducible apply own_set_otherH); focus (first | (simp; done) | (simp; omega)))))); intro hO0; have hk0 := hO0.2.1; have hl0 := hO0.1; have hf0 := hO0.2.2; (try simp only [List.setIfInBounds_toArray, List.set_cons_zero, List.set_cons_succ] at hO0 hk0)
        go_wp2
        go_returns
        exact ⟨rfl, by (repeat' (first | (with_reducible exact Below.refl _ _) | (with_reducible refine below_alloc ?_ _) | (with_reducible refine Below.drew ?_) | (with_reducible refine below_drewN ?_ _) | (with_reducible refine Below.setCell ?_ ?_ _) | (with_reducible assumption) | (with_reducible refine below_of ?_ (by assumption)) | omega | (simp only [World.size_alloc, World.size_setCell, World.size_drew, size_drewN] at *; omega) | (simp; omega)))⟩
    · exact head_check_long src dst words ccval cover sum kind seq w hk
  · rw [Bool.not_eq_true] at hk
    have hcheck : Head.check ⟨src, dst, words, ccval, cover, sum, kind, long, seq⟩ = 7 := by simp [Head.check, hk]
    rw [hcheck]
    have HK := Lib.hid hk
    clear hk hcheck
    go_enter Try.func55, Try.ntmps55
    go_wp2_with fail
    refine (head_of _ _).mono ?_
    rw [HK.out]
    rintro e w1 ⟨rfl, hb⟩; have hz := hb.size; (try simp only [World.size_alloc, World.size_setCell, World.size_drew, size_drewN] at hz); apply own_step (B := w.heap.size) hb; (focus (repeat (first | (with_reducible assumption) | (with_reducible exact own_new _ _ _) | ((with_reducible apply own_new'); focus (first | omega | (simp; done) | (simp; omega))) | (with_reducible apply own_drewN) | (with_reducible apply own_drew) | (with_reducible apply own_alloc) | (with_reducible apply own_setT) | ((with_reducible apply own_set_otherH); focus (first | (simp; done) | (simp; omega)))))); intro hO0; have hk0 := hO0.2.1; have hl0 := hO0.1; have hf0 := hO0.2.2; (try simp only [List.setIfInBounds_toArray, List.set_cons_zero, List.set_cons_succ] at hO0 hk0)
    go_wp2
    go_returns
    exact ⟨rfl, by (repeat' (first | (with_reducible exact Below.refl _ _) | (with_reducible refine below_alloc ?_ _) | (with_reducible refine Below.drew ?_) | (with_reducible refine below_drewN ?_ _) | (with_reducible refine Below.setCell ?_ ?_ _) | (with_reducible assumption) | (with_reducible refine below_of ?_ (by assumption)) | omega | (simp only [World.size_alloc, World.size_setCell, World.size_drew, size_drewN] at *; omega) | (simp; omega)))⟩
end Go.Proofs.Ytodfcalaggfldaa
