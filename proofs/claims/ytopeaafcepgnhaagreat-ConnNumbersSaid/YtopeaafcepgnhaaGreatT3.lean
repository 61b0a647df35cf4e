/- Parts of a proof: HdA, HdC, Ref09, PlNu, HdB, CuA, InA, PaA, LsA, Circ, PlSpan, Span, PlSpan2, Span2, Backoff, Can, CnA, Tl, CeA, CeB, CnP, CnX, PaB, CdA, CnL, CdB, PkArg, CdE. No conditions. -/
import Derived.Test.YtopeaafcepgnhaaGreatT2
import Derived.PlainAid
import Derived.Deep.RegionHeld3
import Derived.Lib.AppendZeros
import Derived.OwnWalk
set_option linter.unusedVariables false
set_option linter.unusedSimpArgs false
namespace Go.Proofs.YtopeaafcepgnhaaGreat.Head
def known (k : Int) : Bool := decide (0 ≤ k ∧ k ≤ 9)
def acks (k : Int) : Bool := decide (k = 1 ∨ (3 ≤ k ∧ k ≤ 9))
def bears (k : Int) : Bool := decide (k = 0 ∨ k = 1 ∨ k = 2 ∨ k = 4)
def more (k : Int) : Bool := decide (k = 0 ∨ k = 1 ∨ k = 7)
def brief (k : Int) : Bool := decide (k = 2 ∨ k = 3 ∨ k = 4)
def size (k : Int) (long : Bool) : Int :=
  if known k = false ∨ (long = false ∧ brief k = false) then 0
  else (if long then 16 else 12) + (if acks k then (if long then 8 else 4) else 0) + (if more k then 4 else 0)
def of5 (k : Int) : Bool × Bool × Bool × Bool × Bool :=
  if (k == 1) = true then (true, true, true, true, false) else if (k == 0) = true then (true, false, true, true, false) else if (k == 4) = true then (true, true, true, false, true)
  else if (k == 2) = true then (true, false, true, false, true) else if (k == 3) = true then (true, true, false, false, true) else if (k == 7) = true then (true, true, false, true, false)
  else if (k == 5) = true then (true, true, false, false, false) else if (k == 6) = true then (true, true, false, false, false) else if (k == 8) = true then (true, true, false, false, false)
  else if (k == 9) = true then (true, true, false, false, false) else (false, false, false, false, false)
theorem of5_eq (k : Int) : of5 k = (known k, acks k, bears k, more k, brief k) := by
  unfold of5 known acks bears more brief
  simp only [beq_iff_eq]
  repeat' split
  all_goals (try subst k)
  all_goals (first | decide | (simp only [Prod.mk.injEq, Bool.false_eq, decide_eq_false_iff_not]; omega))
structure H where
  src : Int
  dst : Int
  words : Int
  ccval : Int
  cover : Int
  sum : Int
  kind : Int
  long : Bool
  seq : Int
  deriving DecidableEq
abbrev H.v (h : H) : Value := .agg #[.int .i64 h.src, .int .i64 h.dst, .int .i64 h.words, .int .i64 h.ccval, .int .i64 h.cover, .int .i64 h.sum, .int .i64 h.kind, .bool h.long, .int .i64 h.seq]
def wi (n m : Int) : Bool := decide (0 ≤ n ∧ n ≤ m)
def most (long : Bool) : Int := if long = true then 281474976710656 else 16777216
def check (h : H) : Int :=
  if known h.kind = false then 7 else if h.long = false ∧ brief h.kind = false then 4
  else if wi h.src 65535 = false ∨ wi h.dst 65535 = false ∨ wi h.sum 65535 = false ∨ wi h.ccval 15 = false ∨ wi h.cover 15 = false then 3
  else if wi h.seq (most h.long - 1) = false ∨ wi h.words 255 = false then 3
  else if 4 * h.words < size h.kind h.long then 1 else 0
def put (h : H) : List UInt8 :=
  Oct.be (Oct.u64 h.src) 2 ++ Oct.be (Oct.u64 h.dst) 2 ++ Oct.be (Oct.u64 h.words) 1 ++ Oct.be (Oct.u64 (16 * h.ccval + h.cover)) 1 ++ Oct.be (Oct.u64 h.sum) 2 ++
    (if h.long = true then Oct.be (Oct.u64 (2 * h.kind + 1)) 1 ++ [0] ++ Oct.be (Oct.u64 h.seq) 6 else Oct.be (Oct.u64 (2 * h.kind)) 1 ++ Oct.be (Oct.u64 h.seq) 3)
end Go.Proofs.YtopeaafcepgnhaaGreat.Head
namespace Go.Proofs.YtopeaafcepgnhaaGreat.Head
theorem wi_iff (n m : Int) : wi n m = true ↔ 0 ≤ n ∧ n ≤ m := by unfold wi; simp
theorem check_ok {h : H} (hc : check h = 0) : (0 ≤ h.kind ∧ h.kind ≤ 9) ∧ (h.long = true ∨ brief h.kind = true) ∧ (0 ≤ h.src ∧ h.src ≤ 65535) ∧ (0 ≤ h.dst ∧ h.dst ≤ 65535) ∧ (0 ≤ h.sum ∧ h.sum ≤ 65535) ∧ (0 ≤ h.ccval ∧ h.ccval ≤ 15) ∧ (0 ≤ h.cover ∧ h.cover ≤ 15) ∧
    (0 ≤ h.seq ∧ h.seq ≤ most h.long - 1) ∧ (0 ≤ h.words ∧ h.words ≤ 255) ∧ size h.kind h.long ≤ 4 * h.words := by
  unfold check at hc
  split at hc
  · omega
  · rename_i h1
    split at hc
    · omega
    · rename_i h2
      split at hc
      · omega
      · rename_i h3
        split at hc
        · omega
        · rename_i h4
          split at hc
          · omega
          · rename_i h5
            simp only [not_or, Bool.not_eq_false] at h1 h3 h4
            have h2' : h.long = true ∨ brief h.kind = true := by
              cases hl : h.long
              · cases hb : brief h.kind
                · exact absurd ⟨hl, hb⟩ h2
                · exact .inr rfl
              · exact .inl rfl
            have hk : 0 ≤ h.kind ∧ h.kind ≤ 9 := by unfold known at h1; simpa using h1
            refine ⟨hk, h2', (wi_iff _ _).1 h3.1, (wi_iff _ _).1 h3.2.1, (wi_iff _ _).1 h3.2.2.1, (wi_iff _ _).1 h3.2.2.2.1, (wi_iff _ _).1 h3.2.2.2.2, (wi_iff _ _).1 h4.1, (wi_iff _ _).1 h4.2, by omega⟩
end Go.Proofs.YtopeaafcepgnhaaGreat.Head
namespace Go.Proofs.YtopeaafcepgnhaaGreat
open Go.RowKit
theorem head_tab (a b c d e : Bool) (k : Int) (h : (a, b, c, d, e) = Head.of5 k) : Ending.returned (.agg #[.bool a, .bool b, .bool c, .bool d, .bool e]) = Ending.returned (.agg #[.bool (Head.known k), .bool (Head.acks k), .bool (Head.bears k), .bool (Head.more k), .bool (Head.brief k)]) := by
  rw [Head.of5_eq] at h
  simp only [Prod.mk.injEq] at h
  rw [h.1, h.2.1, h.2.2.1, h.2.2.2.1, h.2.2.2.2]
set_option maxHeartbeats 1000000 in
set_option maxRecDepth 100000 in
theorem head_of (k : Int) (w : World) : Calls Tryz.prog 105 #[.int .i64 k] w fun e w' => e = .returned (.agg #[.bool (Head.known k), .bool (Head.acks k), .bool (Head.bears k), .bool (Head.more k), .bool (Head.brief k)]) ∧ Below w.heap.size w w' := by
  go_enter Tryz.func105, Tryz.ntmps105
  go_wp2
  all_goals (go_returns; go_light)
  all_goals refine ⟨?_, by (repeat' (first | (with_reducible exact Below.refl _ _) | (with_reducible refine below_alloc ?_ _) | (with_reducible refine Below.drew ?_) | (with_reducible refine below_drewN ?_ _) | (with_reducible refine Below.setCell ?_ ?_ _) | (with_reducible assumption) | (with_reducible refine below_of ?_ (by assumption)) | omega | (simp only [World.size_alloc, World.size_setCell, World.size_drew, size_drewN] at *; omega) | (simp; omega)))⟩
  all_goals refine head_tab _ _ _ _ _ k ?_
  all_goals simp only [Head.of5, *, ↓reduceIte, Bool.false_eq_true]
end Go.Proofs.YtopeaafcepgnhaaGreat
namespace Go.Proofs.YtopeaafcepgnhaaGreat
open Go.RowKit
theorem field_traits (a b c d e : Bool) (w : World) : (Instr.field 112 (.agg #[.bool a, .bool b, .bool c, .bool d, .bool e]) 1).run Tryz.prog w = .ok (.bool b) w ∧ (Instr.field 112 (.agg #[.bool a, .bool b, .bool c, .bool d, .bool e]) 2).run Tryz.prog w = .ok (.bool c) w :=
  ⟨by kernel_rfl, by kernel_rfl⟩
theorem head_acks (k : Int) (w : World) : Calls Tryz.prog 91 #[.int .i64 k] w fun e w' => e = .returned (.bool (Head.acks k)) ∧ Below w.heap.size w w' := by
  have F := fun a b c d e w => (field_traits a b c d e w).1
  go_enter Tryz.func91, Tryz.ntmps91
  go_wp2_with (go_at_call 105; refine (head_of _ _).mono ?_; rintro e w1 ⟨rfl, hb⟩; have hz := hb.size; (try simp only [World.size_alloc, World.size_setCell, World.size_drew, size_drewN] at hz))
  go_returns
  exact ⟨rfl, hb⟩
theorem head_bears (k : Int) (w : World) : Calls Tryz.prog 111 #[.int .i64 k] w fun e w' => e = .returned (.bool (Head.bears k)) ∧ Below w.heap.size w w' := by
  have F := fun a b c d e w => (field_traits a b c d e w).2
  go_enter Tryz.func111, Tryz.ntmps111
  go_wp2_with (go_at_call 105; refine (head_of _ _).mono ?_; rintro e w1 ⟨rfl, hb⟩; have hz := hb.size; (try simp only [World.size_alloc, World.size_setCell, World.size_drew, size_drewN] at hz))
  go_returns
  exact ⟨rfl, hb⟩
theorem head_within (n m : Int) (w : World) : Calls Tryz.prog 106 #[.int .i64 n, .int .i64 m] w fun e w' => e = .returned (.bool (Head.wi n m)) ∧ w = w' := by
  by_cases h1 : 0 ≤ n
  · have e1 : decide (0 ≤ n) = true := by simpa using h1
    go_enter Tryz.func106, Tryz.ntmps106
    go_wp2
    go_ret
    exact ⟨ret_b (by simp [Head.wi, h1]), rfl⟩
  · have e1 : decide (0 ≤ n) = false := by simpa using h1
    go_enter Tryz.func106, Tryz.ntmps106
    go_wp2
    go_ret
    exact ⟨ret_b (by simp [Head.wi]; omega), rfl⟩
theorem head_pick (b : Bool) (x y : Int) (w : World) : Calls Tryz.prog 107 #[.bool b, .int .i64 x, .int .i64 y] w fun e w' => e = .returned (.int .i64 (if b = true then x else y)) ∧ w = w' := by
  cases b
  · go_enter Tryz.func107, Tryz.ntmps107
    go_wp2
    go_ret
    exact ⟨rfl, rfl⟩
  · go_enter Tryz.func107, Tryz.ntmps107
    go_wp2
    go_ret
    exact ⟨rfl, rfl⟩
theorem head_size (k : Int) (long : Bool) (w : World) : Calls Tryz.prog 108 #[.int .i64 k, .bool long] w fun e w' => e = .returned (.int .i64 (Head.size k long)) ∧ Below w.heap.size w w' := by
  have HS : Hid (∀ r, (if Head.known k = false ∨ (long = false ∧ Head.brief k = false) then 0 else (if long then 16 else 12) + (if Head.acks k then (if long then 8 else 4) else 0) + (if Head.more k then 4 else 0)) = r → Head.size k long = r) := fun r h => h
  generalize Head.size k long = r at *
  go_enter Tryz.func108, Tryz.ntmps108
  go_wp2_with fail
  refine (head_of _ _).mono ?_
  generalize Head.known k = a at *
  generalize Head.acks k = b at *
  generalize Head.bears k = c at *
  generalize Head.more k = d at *
  generalize Head.brief k = e at *
  rintro e' w1 ⟨rfl, hb⟩
  have hz := hb.size
  cases a
  · go_wp2
    all_goals (go_returns; go_light)
    all_goals exact ⟨ret_i (by rw [HS.out 0 (by simp)]), by (repeat' (first | (with_reducible exact Below.refl _ _) | (with_reducible refine below_alloc ?_ _) | (with_reducible refine Below.drew ?_) | (with_reducible refine below_drewN ?_ _) | (with_reducible refine Below.setCell ?_ ?_ _) | (with_reducible assumption) | (with_reducible refine below_of ?_ (by assumption)) | omega | (simp only [World.size_alloc, World.size_setCell, World.size_drew, size_drewN] at *; omega) | (simp; omega)))⟩
  · cases long
    · cases e
      · go_wp2
        all_goals (go_returns; go_light)
        all_goals exact ⟨ret_i (by rw [HS.out 0 (by simp)]), by (repeat' (first | (with_reducible exact Below.refl _ _) | (with_reducible refine below_alloc ?_ _) | (with_reducible refine Below.drew ?_) | (with_reducible refine below_drewN ?_ _) | (with_reducible refine Below.setCell ?_ ?_ _) | (with_reducible assumption) | (with_reducible refine below_of ?_ (by assumption)) | omega | (simp only [World.size_alloc, World.size_setCell, World.size_drew, size_drewN] at *; omega) | (simp; omega)))⟩
      · go_wp2_with (go_at_call 107; refine (head_pick _ _ _ _).mono ?_; rintro e w1 ⟨rfl, rfl⟩)
        all_goals (go_returns; go_light)
        all_goals exact ⟨ret_i (by rw [HS.out _ (by simp [*]; rfl)]), by (repeat' (first | (with_reducible exact Below.refl _ _) | (with_reducible refine below_alloc ?_ _) | (with_reducible refine Below.drew ?_) | (with_reducible refine below_drewN ?_ _) | (with_reducible refine Below.setCell ?_ ?_ _) | (with_reducible assumption) | (with_reducible refine below_of ?_ (by assumption)) | omega | (simp only [World.size_alloc, World.size_setCell, World.size_drew, size_drewN] at *; omega) | (simp; omega)))⟩
    · go_wp2_with (go_at_call 107; refine (head_pick _ _ _ _).mono ?_; rintro e w1 ⟨rfl, rfl⟩)
      all_goals (go_returns; go_light)
      all_goals exact ⟨ret_i (by rw [HS.out _ (by simp [*]; rfl)]), by (repeat' (first | (with_reducible exact Below.refl _ _) | (with_reducible refine below_alloc ?_ _) | (with_reducible refine Below.drew ?_) | (with_reducible refine below_drewN ?_ _) | (with_reducible refine Below.setCell ?_ ?_ _) | (with_reducible assumption) | (with_reducible refine below_of ?_ (by assumption)) | omega | (simp only [World.size_alloc, World.size_setCell, World.size_drew, size_drewN] at *; omega) | (simp; omega)))⟩
end Go.Proofs.YtopeaafcepgnhaaGreat
namespace Go.Proofs.YtopeaafcepgnhaaGreat
open Go.RowKit
set_option maxRecDepth 100000 in
set_option maxHeartbeats 4000000 in
theorem head_check_long (src dst words ccval cover sum kind seq : Int) (w : World) (hk : Head.known kind = true) :
    Calls Tryz.prog 84 #[(⟨src, dst, words, ccval, cover, sum, kind, true, seq⟩ : Head.H).v] w fun e w' => e = .returned (.int .i64 (Head.check ⟨src, dst, words, ccval, cover, sum, kind, true, seq⟩)) ∧ Below w.heap.size w w' := by
  have hcheck : Head.check ⟨src, dst, words, ccval, cover, sum, kind, true, seq⟩ = if Head.wi src 65535 = false then 3 else if Head.wi dst 65535 = false then 3 else if Head.wi sum 65535 = false then 3 else if Head.wi ccval 15 = false then 3 else if Head.wi cover 15 = false then 3
      else if Head.wi seq 281474976710655 = false then 3 else if Head.wi words 255 = false then 3 else if 4 * words < Head.size kind true then 1 else 0 := by
    unfold Head.check
    simp only [hk, Bool.true_eq_false, Bool.false_eq_true, false_and, and_false, if_false, Head.most, if_true]
    cases Head.wi src 65535 <;> cases Head.wi dst 65535 <;> cases Head.wi sum 65535 <;> cases Head.wi ccval 15 <;> cases Head.wi cover 15 <;> simp
    cases Head.wi words 255 <;> simp
  rw [hcheck]
  clear hcheck
  have HK := Lib.hid hk
  have hw : Head.wi words 255 = true → 0 ≤ words ∧ words ≤ 255 := by unfold Head.wi; simp only [decide_eq_true_eq]; exact id
  have HW := Lib.hid hw
  clear hk hw
  generalize hw1 : Head.wi src 65535 = b1
  generalize hw2 : Head.wi dst 65535 = b2
  generalize hw3 : Head.wi sum 65535 = b3
  generalize hw4 : Head.wi ccval 15 = b4
  generalize hw5 : Head.wi cover 15 = b5
  generalize hw6 : Head.wi seq 281474976710655 = b6
  generalize hw7 : Head.wi words 255 = b7 at HW
  generalize hsz : Head.size kind true = n
  have H1 := Lib.hid hw1
  have H2 := Lib.hid hw2
  have H3 := Lib.hid hw3
  have H4 := Lib.hid hw4
  have H5 := Lib.hid hw5
  have H6 := Lib.hid hw6
  have H7 := Lib.hid hw7
  have H8 := Lib.hid hsz
  clear hw1 hw2 hw3 hw4 hw5 hw6 hw7 hsz
  go_enter Tryz.func84, Tryz.ntmps84
  go_wp2_with fail
  refine (head_of _ _).mono ?_
  rw [HK.out]
  rintro e w1 ⟨rfl, hb⟩; have hz := hb.size; (try simp only [World.size_alloc, World.size_setCell, World.size_drew, size_drewN] at hz); apply own_step (B := w.heap.size) hb; (focus (repeat (first | (with_reducible assumption) | (with_reducible exact own_new _ _ _) | ((with_reducible apply own_new'); focus (first | omega | (simp; done) | (simp; omega))) | (with_reducible apply own_drewN) | (with_reducible apply own_drew) | (with_reducible apply own_alloc) | (with_reducible apply own_setT) | ((with_reducible apply own_set_otherH); focus (first | (simp; done) | (simp; omega)))))); intro hO0; have hk0 := hO0.2.1; have hl0 := hO0.1; have hf0 := hO0.2.2; (try simp only [List.setIfInBounds_toArray, List.set_cons_zero, List.set_cons_succ] at hO0 hk0)
  cases b1
  · go_wp2_with (go_at_call 106; refine (head_within _ _ _).mono ?_; (first | rw [H1.out] | rw [H2.out] | rw [H3.out] | rw [H4.out] | rw [H5.out] | rw [H6.out] | rw [H7.out]); rintro e w1 ⟨rfl, rfl⟩)
    go_returns
    exact ⟨rfl, by (repeat' (first | (with_reducible exact Below.refl _ _) | (with_reducible refine below_alloc ?_ _) | (with_reducible refine Below.drew ?_) | (with_reducible refine below_drewN ?_ _) | (with_reducible refine Below.setCell ?_ ?_ _) | (with_reducible assumption) | (with_reducible refine below_of ?_ (by assumption)) | omega | (simp only [World.size_alloc, World.size_setCell, World.size_drew, size_drewN] at *; omega) | (simp; omega)))⟩
  · skip
    cases b2
    · go_wp2_with (go_at_call 106; refine (head_within _ _ _).mono ?_; (first | rw [H1.out] | rw [H2.out] | rw [H3.out] | rw [H4.out] | rw [H5.out] | rw [H6.out] | rw [H7.out]); rintro e w1 ⟨rfl, rfl⟩)
      go_returns
      exact ⟨rfl, by (repeat' (first | (with_reducible exact Below.refl _ _) | (with_reducible refine below_alloc ?_ _) | (with_reducible refine Below.drew ?_) | (with_reducible refine below_drewN ?_ _) | (with_reducible refine Below.setCell ?_ ?_ _) | (with_reducible assumption) | (with_reducible refine below_of ?_ (by assumption)) | omega | (simp only [World.size_alloc, World.size_setCell, World.size_drew, size_drewN] at *; omega) | (simp; omega)))⟩
    · skip
      cases b3
      · go_wp2_with (go_at_call 106; refine (head_within _ _ _).mono ?_; (first | rw [H1.out] | rw [H2.out] | rw [H3.out] | rw [H4.out] | rw [H5.out] | rw [H6.out] | rw [H7.out]); rintro e w1 ⟨rfl, rfl⟩)
        go_returns
        exact ⟨rfl, by (repeat' (first | (with_reducible exact Below.refl _ _) | (with_reducible refine below_alloc ?_ _) | (with_reducible refine Below.drew ?_) | (with_reducible refine below_drewN ?_ _) | (with_reducible refine Below.setCell ?_ ?_ _) | (with_reducible assumption) | (with_reducible refine below_of ?_ (by assumption)) | omega | (simp only [World.size_alloc, World.size_setCell, World.size_drew, size_drewN] at *; omega) | (simp; omega)))⟩
      · skip
        cases b4
        · go_wp2_with (go_at_call 106; refine (head_within _ _ _).mono ?_; (first | rw [H1.out] | rw [H2.out] | rw [H3.out] | rw [H4.out] | rw [H5.out] | rw [H6.out] | rw [H7.out]); rintro e w1 ⟨rfl, rfl⟩)
          go_returns
          exact ⟨rfl, by (repeat' (first | (with_reducible exact Below.refl _ _) | (with_reducible refine below_alloc ?_ _) | (with_reducible refine Below.drew ?_) | (with_reducible refine below_drewN ?_ _) | (with_reducible refine Below.setCell ?_ ?_ _) | (with_reducible assumption) | (with_reducible refine below_of ?_ (by assumption)) | omega | (simp only [World.size_alloc, World.size_setCell, World.size_drew, size_drewN] at *; omega) | (simp; omega)))⟩
        · skip
          cases b5
          · go_wp2_with (go_at_call 106; refine (head_within _ _ _).mono ?_; (first | rw [H1.out] | rw [H2.out] | rw [H3.out] | rw [H4.out] | rw [H5.out] | rw [H6.out] | rw [H7.out]); rintro e w1 ⟨rfl, rfl⟩)
            go_returns
            exact ⟨rfl, by (repeat' (first | (with_reducible exact Below.refl _ _) | (with_reducible refine below_alloc ?_ _) | (with_reducible refine Below.drew ?_) | (with_reducible refine below_drewN ?_ _) | (with_reducible refine Below.setCell ?_ ?_ _) | (with_reducible assumption) | (with_reducible refine below_of ?_ (by assumption)) | omega | (simp only [World.size_alloc, World.size_setCell, World.size_drew, size_drewN] at *; omega) | (simp; omega)))⟩
          · skip
            have h6 := H6.out
            go_wp2_with (go_at_call 106; refine (head_within _ _ _).mono ?_; (first | rw [H1.out] | rw [H2.out] | rw [H3.out] | rw [H4.out] | rw [H5.out] | rw [H6.out] | rw [H7.out]); rintro e w1 ⟨rfl, rfl⟩)
            cases b6
            · go_quiet (first | (go_at_call 107; first | exact quiet_left (head_pick _ _ _ _) | exact quiet_add_left (head_pick _ _ _ _)) | (go_at_call 106; first | exact quiet_left (head_within _ _ _) | exact quiet_add_left (head_within _ _ _)))
              go_wp2
              go_returns
              exact ⟨rfl, by (repeat' (first | (with_reducible exact Below.refl _ _) | (with_reducible refine below_alloc ?_ _) | (with_reducible refine Below.drew ?_) | (with_reducible refine below_drewN ?_ _) | (with_reducible refine Below.setCell ?_ ?_ _) | (with_reducible assumption) | (with_reducible refine below_of ?_ (by assumption)) | omega | (simp only [World.size_alloc, World.size_setCell, World.size_drew, size_drewN] at *; omega) | (simp; omega)))⟩
            · go_quiet (first | (go_at_call 107; first | exact quiet_left (head_pick _ _ _ _) | exact quiet_add_left (head_pick _ _ _ _)) | (go_at_call 106; first | exact quiet_left (head_within _ _ _) | exact quiet_add_left (head_within _ _ _)))
              clear h6
              go_wp2_with fail
              refine (head_within _ _ _).mono ?_
              rw [H7.out]
              rintro e w1 ⟨rfl, rfl⟩
              cases b7
              · go_wp2
                go_returns
                exact ⟨rfl, by (repeat' (first | (with_reducible exact Below.refl _ _) | (with_reducible refine below_alloc ?_ _) | (with_reducible refine Below.drew ?_) | (with_reducible refine below_drewN ?_ _) | (with_reducible refine Below.setCell ?_ ?_ _) | (with_reducible assumption) | (with_reducible refine below_of ?_ (by assumption)) | omega | (simp only [World.size_alloc, World.size_setCell, World.size_drew, size_drewN] at *; omega) | (simp; omega)))⟩
              · obtain ⟨hw0, hw1⟩ := HW.out rfl
                have hwr : IntKind.i64.wrap (4 * words) = 4 * words := IntWalk.i64_in _ (by omega)
                by_cases hlt : 4 * words < n
                · have hd : decide (4 * words < n) = true := by simpa using hlt
                  go_wp2_with fail
                  go_region_held3 (fun w' => w'.cell? ⟨w.heap.size, 2, none⟩ = some (.int .i64 words) ∧ w'.cell? ⟨w.heap.size, 6, none⟩ = some (.int .i64 kind) ∧ w'.cell? ⟨w.heap.size, 7, none⟩ = some (.bool true)) (go_keep) (first | (go_at_call 108; refine (head_size _ _ _).mono ?_; rw [H8.out]; rintro e w3 ⟨rfl, hb⟩; have hz := hb.size; (try simp only [World.size_alloc, World.size_setCell, World.size_drew, size_drewN] at hz); apply own_step (B := w.heap.size) hb; (focus (repeat (first | (with_reducible assumption) | (with_reducible exact own_new _ _ _) | ((with_reducible apply own_new'); focus (first | omega | (simp; done) | (simp; omega))) | (with_reducible apply own_drewN) | (with_reducible apply own_drew) | (with_reducible apply own_alloc) | (with_reducible apply own_setT) | ((with_reducible apply own_set_otherH); focus (first | (simp; done) | (simp; omega)))))); intro hO0; have hk0 := hO0.2.1; have hl0 := hO0.1; have hf0 := hO0.2.2; (try simp only [List.setIfInBounds_toArray, List.set_cons_zero, List.set_cons_succ] at hO0 hk0)))
                  go_wp2
                  go_returns
                  exact ⟨ret_i (by simp [hlt]), by (repeat' (first | (with_reducible exact Below.refl _ _) | (with_reducible refine below_alloc ?_ _) | (with_reducible refine Below.drew ?_) | (with_reducible refine below_drewN ?_ _) | (with_reducible refine Below.setCell ?_ ?_ _) | (with_reducible assumption) | (with_reducible refine below_of ?_ (by assumption)) | omega | (simp only [World.size_alloc, World.size_setCell, World.size_drew, size_drewN] at *; omega) | (simp; omega)))⟩
                · have hd : decide (4 * words < n) = false := by simpa using hlt
                  go_wp2_with fail
                  go_region_held3 (fun w' => w'.cell? ⟨w.heap.size, 2, none⟩ = some (.int .i64 words) ∧ w'.cell? ⟨w.heap.size, 6, none⟩ = some (.int .i64 kind) ∧ w'.cell? ⟨w.heap.size, 7, none⟩ = some (.bool true)) (go_keep) (first | (go_at_call 108; refine (head_size _ _ _).mono ?_; rw [H8.out]; rintro e w3 ⟨rfl, hb⟩; have hz := hb.size; (try simp only [World.size_alloc, World.size_setCell, World.size_drew, size_drewN] at hz); apply own_step (B := w.heap.size) hb; (focus (repeat (first | (with_reducible assumption) | (with_reducible exact own_new _ _ _) | ((with_reducible apply own_new'); focus (first | omega | (simp; done) | (simp; omega))) | (with_reducible apply own_drewN) | (with_reducible apply own_drew) | (with_reducible apply own_alloc) | (with_reducible apply own_setT) | ((with_reducible apply own_set_otherH); focus (first | (simp; done) | (simp; omega)))))); intro hO0; have hk0 := hO0.2.1; have hl0 := hO0.1; have hf0 := hO0.2.2; (try simp only [List.setIfInBounds_toArray, List.set_cons_zero, List.set_cons_succ] at hO0 hk0)))
                  go_wp2
                  go_returns
                  exact ⟨ret_i (by simp [hlt]), by (repeat' (first | (with_reducible exact Below.refl _ _) | (with_reducible refine below_alloc ?_ _) | (with_reducible refine Below.drew ?_) | (with_reducible refine below_drewN ?_ _) | (with_reducible refine Below.setCell ?_ ?_ _) | (with_reducible assumption) | (with_reducible refine below_of ?_ (by assumption)) | omega | (simp only [World.size_alloc, World.size_setCell, World.size_drew, size_drewN] at *; omega) | (simp; omega)))⟩
set_option maxRecDepth 100000 in
set_option maxHeartbeats 4000000 in
theorem head_check_short (src dst words ccval cover sum kind seq : Int) (w : World) (hk : Head.known kind = true) (hbr : Head.brief kind = true) :
    Calls Tryz.prog 84 #[(⟨src, dst, words, ccval, cover, sum, kind, false, seq⟩ : Head.H).v] w fun e w' => e = .returned (.int .i64 (Head.check ⟨src, dst, words, ccval, cover, sum, kind, false, seq⟩)) ∧ Below w.heap.size w w' := by
  have hcheck : Head.check ⟨src, dst, words, ccval, cover, sum, kind, false, seq⟩ = if Head.wi src 65535 = false then 3 else if Head.wi dst 65535 = false then 3 else if Head.wi sum 65535 = false then 3 else if Head.wi ccval 15 = false then 3 else if Head.wi cover 15 = false then 3
      else if Head.wi seq 16777215 = false then 3 else if Head.wi words 255 = false then 3 else if 4 * words < Head.size kind false then 1 else 0 := by
    unfold Head.check
    simp only [hk, hbr, Bool.true_eq_false, Bool.false_eq_true, false_and, and_false, if_false, Head.most, if_true]
    cases Head.wi src 65535 <;> cases Head.wi dst 65535 <;> cases Head.wi sum 65535 <;> cases Head.wi ccval 15 <;> cases Head.wi cover 15 <;> simp
    cases Head.wi words 255 <;> simp
  rw [hcheck]
  clear hcheck
  have HK := Lib.hid hk
  have HB := Lib.hid hbr
  clear hbr
  have hw : Head.wi words 255 = true → 0 ≤ words ∧ words ≤ 255 := by unfold Head.wi; simp only [decide_eq_true_eq]; exact id
  have HW := Lib.hid hw
  clear hk hw
  generalize hw1 : Head.wi src 65535 = b1
  generalize hw2 : Head.wi dst 65535 = b2
  generalize hw3 : Head.wi sum 65535 = b3
  generalize hw4 : Head.wi ccval 15 = b4
  generalize hw5 : Head.wi cover 15 = b5
  generalize hw6 : Head.wi seq 16777215 = b6
  generalize hw7 : Head.wi words 255 = b7 at HW
  generalize hsz : Head.size kind false = n
  have H1 := Lib.hid hw1
  have H2 := Lib.hid hw2
  have H3 := Lib.hid hw3
  have H4 := Lib.hid hw4
  have H5 := Lib.hid hw5
  have H6 := Lib.hid hw6
  have H7 := Lib.hid hw7
  have H8 := Lib.hid hsz
  clear hw1 hw2 hw3 hw4 hw5 hw6 hw7 hsz
  go_enter Tryz.func84, Tryz.ntmps84
  go_wp2_with fail
  refine (head_of _ _).mono ?_
  rw [HK.out, HB.out]
  rintro e w1 ⟨rfl, hb⟩; have hz := hb.size; (try simp only [World.size_alloc, World.size_setCell, World.size_drew, size_drewN] at hz); apply own_step (B := w.heap.size) hb; (focus (repeat (first | (with_reducible assumption) | (with_reducible exact own_new _ _ _) | ((with_reducible apply own_new'); focus (first | omega | (simp; done) | (simp; omega))) | (with_reducible apply own_drewN) | (with_reducible apply own_drew) | (with_reducible apply own_alloc) | (with_reducible apply own_setT) | ((with_reducible apply own_set_otherH); focus (first | (simp; done) | (simp; omega)))))); intro hO0; have hk0 := hO0.2.1; have hl0 := hO0.1; have hf0 := hO0.2.2; (try simp only [List.setIfInBounds_toArray, List.set_cons_zero, List.set_cons_succ] at hO0 hk0)
  cases b1
  · go_wp2_with (go_at_call 106; refine (head_within _ _ _).mono ?_; (first | rw [H1.out] | rw [H2.out] | rw [H3.out] | rw [H4.out] | rw [H5.out] | rw [H6.out] | rw [H7.out]); rintro e w1 ⟨rfl, rfl⟩)
    go_returns
    exact ⟨rfl, by (repeat' (first | (with_reducible exact Below.refl _ _) | (with_reducible refine below_alloc ?_ _) | (with_reducible refine Below.drew ?_) | (with_reducible refine below_drewN ?_ _) | (with_reducible refine Below.setCell ?_ ?_ _) | (with_reducible assumption) | (with_reducible refine below_of ?_ (by assumption)) | omega | (simp only [World.size_alloc, World.size_setCell, World.size_drew, size_drewN] at *; omega) | (simp; omega)))⟩
  · skip
    cases b2
    · go_wp2_with (go_at_call 106; refine (head_within _ _ _).mono ?_; (first | rw [H1.out] | rw [H2.out] | rw [H3.out] | rw [H4.out] | rw [H5.out] | rw [H6.out] | rw [H7.out]); rintro e w1 ⟨rfl, rfl⟩)
      go_returns
      exact ⟨rfl, by (repeat' (first | (with_reducible exact Below.refl _ _) | (with_reducible refine below_alloc ?_ _) | (with_reducible refine Below.drew ?_) | (with_reducible refine below_drewN ?_ _) | (with_reducible refine Below.setCell ?_ ?_ _) | (with_reducible assumption) | (with_reducible refine below_of ?_ (by assumption)) | omega | (simp only [World.size_alloc, World.size_setCell, World.size_drew, size_drewN] at *; omega) | (simp; omega)))⟩
    · skip
      cases b3
      · go_wp2_with (go_at_call 106; refine (head_within _ _ _).mono ?_; (first | rw [H1.out] | rw [H2.out] | rw [H3.out] | rw [H4.out] | rw [H5.out] | rw [H6.out] | rw [H7.out]); rintro e w1 ⟨rfl, rfl⟩)
        go_returns
        exact ⟨rfl, by (repeat' (first | (with_reducible exact Below.refl _ _) | (with_reducible refine below_alloc ?_ _) | (with_reducible refine Below.drew ?_) | (with_reducible refine below_drewN ?_ _) | (with_reducible refine Below.setCell ?_ ?_ _) | (with_reducible assumption) | (with_reducible refine below_of ?_ (by assumption)) | omega | (simp only [World.size_alloc, World.size_setCell, World.size_drew, size_drewN] at *; omega) | (simp; omega)))⟩
      · skip
        cases b4
        · go_wp2_with (go_at_call 106; refine (head_within _ _ _).mono ?_; (first | rw [H1.out] | rw [H2.out] | rw [H3.out] | rw [H4.out] | rw [H5.out] | rw [H6.out] | rw [H7.out]); rintro e w1 ⟨rfl, rfl⟩)
          go_returns
          exact ⟨rfl, by (repeat' (first | (with_reducible exact Below.refl _ _) | (with_reducible refine below_alloc ?_ _) | (with_reducible refine Below.drew ?_) | (with_reducible refine below_drewN ?_ _) | (with_reducible refine Below.setCell ?_ ?_ _) | (with_reducible assumption) | (with_reducible refine below_of ?_ (by assumption)) | omega | (simp only [World.size_alloc, World.size_setCell, World.size_drew, size_drewN] at *; omega) | (simp; omega)))⟩
        · skip
          cases b5
          · go_wp2_with (go_at_call 106; refine (head_within _ _ _).mono ?_; (first | rw [H1.out] | rw [H2.out] | rw [H3.out] | rw [H4.out] | rw [H5.out] | rw [H6.out] | rw [H7.out]); rintro e w1 ⟨rfl, rfl⟩)
            go_returns
            exact ⟨rfl, by (repeat' (first | (with_reducible exact Below.refl _ _) | (with_reducible refine below_alloc ?_ _) | (with_reducible refine Below.drew ?_) | (with_reducible refine below_drewN ?_ _) | (with_reducible refine Below.setCell ?_ ?_ _) | (with_reducible assumption) | (with_reducible refine below_of ?_ (by assumption)) | omega | (simp only [World.size_alloc, World.size_setCell, World.size_drew, size_drewN] at *; omega) | (simp; omega)))⟩
          · skip
            have h6 := H6.out
            go_wp2_with (go_at_call 106; refine (head_within _ _ _).mono ?_; (first | rw [H1.out] | rw [H2.out] | rw [H3.out] | rw [H4.out] | rw [H5.out] | rw [H6.out] | rw [H7.out]); rintro e w1 ⟨rfl, rfl⟩)
            cases b6
            · go_quiet (first | (go_at_call 107; first | exact quiet_left (head_pick _ _ _ _) | exact quiet_add_left (head_pick _ _ _ _)) | (go_at_call 106; first | exact quiet_left (head_within _ _ _) | exact quiet_add_left (head_within _ _ _)))
              go_wp2
              go_returns
              exact ⟨rfl, by (repeat' (first | (with_reducible exact Below.refl _ _) | (with_reducible refine below_alloc ?_ _) | (with_reducible refine Below.drew ?_) | (with_reducible refine below_drewN ?_ _) | (with_reducible refine Below.setCell ?_ ?_ _) | (with_reducible assumption) | (with_reducible refine below_of ?_ (by assumption)) | omega | (simp only [World.size_alloc, World.size_setCell, World.size_drew, size_drewN] at *; omega) | (simp; omega)))⟩
            · go_quiet (first | (go_at_call 107; first | exact quiet_left (head_pick _ _ _ _) | exact quiet_add_left (head_pick _ _ _ _)) | (go_at_call 106; first | exact quiet_left (head_within _ _ _) | exact quiet_add_left (head_within _ _ _)))
              clear h6
              go_wp2_with fail
              refine (head_within _ _ _).mono ?_
              rw [H7.out]
              rintro e w1 ⟨rfl, rfl⟩
              cases b7
              · go_wp2
                go_returns
                exact ⟨rfl, by (repeat' (first | (with_reducible exact Below.refl _ _) | (with_reducible refine below_alloc ?_ _) | (with_reducible refine Below.drew ?_) | (with_reducible refine below_drewN ?_ _) | (with_reducible refine Below.setCell ?_ ?_ _) | (with_reducible assumption) | (with_reducible refine below_of ?_ (by assumption)) | omega | (simp only [World.size_alloc, World.size_setCell, World.size_drew, size_drewN] at *; omega) | (simp; omega)))⟩
              · obtain ⟨hw0, hw1⟩ := HW.out rfl
                have hwr : IntKind.i64.wrap (4 * words) = 4 * words := IntWalk.i64_in _ (by omega)
                by_cases hlt : 4 * words < n
                · have hd : decide (4 * words < n) = true := by simpa using hlt
                  go_wp2_with fail
                  go_region_held3 (fun w' => w'.cell? ⟨w.heap.size, 2, none⟩ = some (.int .i64 words) ∧ w'.cell? ⟨w.heap.size, 6, none⟩ = some (.int .i64 kind) ∧ w'.cell? ⟨w.heap.size, 7, none⟩ = some (.bool false)) (go_keep) (first | (go_at_call 108; refine (head_size _ _ _).mono ?_; rw [H8.out]; rintro e w3 ⟨rfl, hb⟩; have hz := hb.size; (try simp only [World.size_alloc, World.size_setCell, World.size_drew, size_drewN] at hz); apply own_step (B := w.heap.size) hb; (focus (repeat (first | (with_reducible assumption) | (with_reducible exact own_new _ _ _) | ((with_reducible apply own_new'); focus (first | omega | (simp; done) | (simp; omega))) | (with_reducible apply own_drewN) | (with_reducible apply own_drew) | (with_reducible apply own_alloc) | (with_reducible apply own_setT) | ((with_reducible apply own_set_otherH); focus (first | (simp; done) | (simp; omega)))))); intro hO0; have hk0 := hO0.2.1; have hl0 := hO0.1; have hf0 := hO0.2.2; (try simp only [List.setIfInBounds_toArray, List.set_cons_zero, List.set_cons_succ] at hO0 hk0)))
                  go_wp2
                  go_returns
                  exact ⟨ret_i (by simp [hlt]), by (repeat' (first | (with_reducible exact Below.refl _ _) | (with_reducible refine below_alloc ?_ _) | (with_reducible refine Below.drew ?_) | (with_reducible refine below_drewN ?_ _) | (with_reducible refine Below.setCell ?_ ?_ _) | (with_reducible assumption) | (with_reducible refine below_of ?_ (by assumption)) | omega | (simp only [World.size_alloc, World.size_setCell, World.size_drew, size_drewN] at *; omega) | (simp; omega)))⟩
                · have hd : decide (4 * words < n) = false := by simpa using hlt
                  go_wp2_with fail
                  go_region_held3 (fun w' => w'.cell? ⟨w.heap.size, 2, none⟩ = some (.int .i64 words) ∧ w'.cell? ⟨w.heap.size, 6, none⟩ = some (.int .i64 kind) ∧ w'.cell? ⟨w.heap.size, 7, none⟩ = some (.bool false)) (go_keep) (first | (go_at_call 108; refine (head_size _ _ _).mono ?_; rw [H8.out]; rintro e w3 ⟨rfl, hb⟩; have hz := hb.size; (try simp only [World.size_alloc, World.size_setCell, World.size_drew, size_drewN] at hz); apply own_step (B := w.heap.size) hb; (focus (repeat (first | (with_reducible assumption) | (with_reducible exact own_new _ _ _) | ((with_reducible apply own_new'); focus (first | omega | (simp; done) | (simp; omega))) | (with_reducible apply own_drewN) | (with_reducible apply own_drew) | (with_reducible apply own_alloc) | (with_reducible apply own_setT) | ((with_reducible apply own_set_otherH); focus (first | (simp; done) | (simp; omega)))))); intro hO0; have hk0 := hO0.2.1; have hl0 := hO0.1; have hf0 := hO0.2.2; (try simp only [List.setIfInBounds_toArray, List.set_cons_zero, List.set_cons_succ] at hO0 hk0)))
                  go_wp2
                  go_returns
                  exact ⟨ret_i (by simp [hlt]), by (repeat' (first | (with_reducible exact Below.refl _ _) | (with_reducible refine below_alloc ?_ _) | (with_reducible refine Below.drew ?_) | (with_reducible refine below_drewN ?_ _) | (with_reducible refine Below.setCell ?_ ?_ _) | (with_reducible assumption) | (with_reducible refine below_of ?_ (by assumption)) | omega | (simp only [World.size_alloc, World.size_setCell, World.size_drew, size_drewN] at *; omega) | (simp; omega)))⟩
set_option maxRecDepth 100000 in
set_option maxHeartbeats 1000000 in
theorem head_check (h : Head.H) (w : World) : Calls Tryz.prog 84 #[h.v] w fun e w' => e = .returned (.int .i64 (Head.check h)) ∧ Below w.heap.size w w' := by
  obtain ⟨src, dst, words, ccval, cover, sum, kind, long, seq⟩ := h
  by_cases hk : Head.known kind = true
  · cases long
    · by_cases hbr : Head.brief kind = true
      · exact head_check_short src dst words ccval cover sum kind seq w hk hbr
      · rw [Bool.not_eq_true] at hbr
        have hcheck : Head.check ⟨src, dst, words, ccval, cover, sum, kind, false, seq⟩ = 4 := by simp [Head.check, hk, hbr]
        rw [hcheck]
        have HK := Lib.hid hk
        have HB := Lib.hid hbr
        clear hk hbr hcheck
        go_enter Tryz.func84, Tryz.ntmps84
        go_wp2_with fail
        refine (head_of _ _).mono ?_
        rw [HK.out, HB.out]
        rintro e w1 ⟨rfl, hb⟩; have hz := hb.size; (try simp only [World.size_alloc, World.size_setCell, World.size_drew, size_drewN] at hz); apply own_step (B := w.heap.size) hb; (focus (repeat (first | (with_reducible assumption) | (with_reducible exact own_new _ _ _) | ((with_reducible apply own_new'); focus (first | omega | (simp; done) | (simp; omega))) | (with_reducible apply own_drewN) | (with_reducible apply own_drew) | (with_reducible apply own_alloc) | (with_reducible apply own_setT) | ((with_reducible apply own_set_otherH); focus (first | (simp; done) | (simp; omega)))))); intro hO0; have hk0 := hO0.2.1; have hl0 := hO0.1; have hf0 := hO0.2.2; (try simp only [List.setIfInBounds_toArray, List.set_cons_zero, List.set_cons_succ] at hO0 hk0)
        go_wp2
        go_returns
        exact ⟨rfl, by (repeat' (first | (with_reducible exact Below.refl _ _) | (with_reducible refine below_alloc ?_ _) | (with_reducible refine Below.drew ?_) | (with_reducible refine below_drewN ?_ _) | (with_reducible refine Below.setCell ?_ ?_ _) | (with_reducible assumption) | (with_reducible refine below_of ?_ (by assumption)) | omega | (simp only [World.size_alloc, World.size_setCell, World.size_drew, size_drewN] at *; omega) | (simp; omega)))⟩
    · exact head_check_long src dst words ccval cover sum kind seq w hk
  · rw [Bool.not_eq_true] at hk
    have hcheck : Head.check ⟨src, dst, words, ccval, cover, sum, kind, long, seq⟩ = 7 := by simp [Head.check, hk]
    rw [hcheck]
    have HK := Lib.hid hk
    clear hk hcheck
    go_enter Tryz.func84, Tryz.ntmps84
    go_wp2_with fail
    refine (head_of _ _).mono ?_
    rw [HK.out]
    rintro e w1 ⟨rfl, hb⟩; have hz := hb.size; (try simp only [World.size_alloc, World.size_setCell, World.size_drew, size_drewN] at hz); apply own_step (B := w.heap.size) hb; (focus (repeat (first | (with_reducible assumption) | (with_reducible exact own_new _ _ _) | ((with_reducible apply own_new'); focus (first | omega | (simp; done) | (simp; omega))) | (with_reducible apply own_drewN) | (with_reducible apply own_drew) | (with_reducible apply own_alloc) | (with_reducible apply own_setT) | ((with_reducible apply own_set_otherH); focus (first | (simp; done) | (simp; omega)))))); intro hO0; have hk0 := hO0.2.1; have hl0 := hO0.1; have hf0 := hO0.2.2; (try simp only [List.setIfInBounds_toArray, List.set_cons_zero, List.set_cons_succ] at hO0 hk0)
    go_wp2
    go_returns
    exact ⟨rfl, by (repeat' (first | (with_reducible exact Below.refl _ _) | (with_reducible refine below_alloc ?_ _) | (with_reducible refine Below.drew ?_) | (with_reducible refine below_drewN ?_ _) | (with_reducible refine Below.setCell ?_ ?_ _) | (with_reducible assumption) | (with_reducible refine below_of ?_ (by assumption)) | omega | (simp only [World.size_alloc, World.size_setCell, World.size_drew, size_drewN] at *; omega) | (simp; omega)))⟩
end Go.Proofs.YtopeaafcepgnhaaGreat
namespace Go.Proofs.YtopeaafcepgnhaaGreat
open Go.RowKit
end Go.Proofs.YtopeaafcepgnhaaGreat
namespace Go.Proofs.YtopeaafcepgnhaaGreat
open Go.RowKit
end Go.Proofs.YtopeaafcepgnhaaGreat
namespace Go.Proofs.YtopeaafcepgnhaaGreat
open Go.RowKit
end Go.Proofs.YtopeaafcepgnhaaGreat
namespace Go.Proofs.YtopeaafcepgnhaaGreat
open Go.RowKit
def nu (s : ByteArray) (a b : Nat) : Nat := Oct.val (s.extract a b).data.toList
def hd (s : ByteArray) (long : Bool) : Head.H := ⟨nu s 0 2, nu s 2 4, nu s 4 5, (nu s 5 6 : Int) / 16, (nu s 5 6 : Int) % 16, nu s 6 8, (nu s 8 9 : Int) / 2 % 16, long, if long = true then nu s 10 16 else nu s 9 12⟩
def hnone : Head.H := ⟨0, 0, 0, 0, 0, 0, 0, false, 0⟩
def get (s : ByteArray) : Head.H × ByteArray × Int :=
  if s.size < 12 then (hnone, ⟨#[]⟩, 1)
  else if nu s 8 9 % 2 = 1 then
    if s.size < 16 then (hnone, ⟨#[]⟩, 1)
    else if nu s 8 9 / 32 = 0 ∧ nu s 9 10 = 0 then
      if Head.check (hd s true) = 0 then (hd s true, s.extract 16 s.size, 0) else (hnone, ⟨#[]⟩, Head.check (hd s true))
    else (hnone, ⟨#[]⟩, 4)
  else if nu s 8 9 / 32 = 0 then
    if Head.check (hd s false) = 0 then (hd s false, s.extract 12 s.size, 0) else (hnone, ⟨#[]⟩, Head.check (hd s false))
  else (hnone, ⟨#[]⟩, 4)
theorem ref09_acks (k : Int) (w : World) : Calls Tryz.prog 50 #[.int .i64 k] w fun e w' => e = .returned (.bool (Head.acks k)) ∧ w = w' := by
  go_enter Tryz.func50, Tryz.ntmps50
  go_wp2
  all_goals (go_returns; go_light)
  all_goals exact ⟨ret_b (by (first | rfl | (rw [Bool.eq_iff_iff]; simp [Head.acks]; done) | (rw [Bool.eq_iff_iff]; simp [Head.acks]; omega))), rfl⟩
theorem ref09_bears (k : Int) (w : World) : Calls Tryz.prog 82 #[.int .i64 k] w fun e w' => e = .returned (.bool (Head.bears k)) ∧ w = w' := by
  go_enter Tryz.func82, Tryz.ntmps82
  go_wp2
  all_goals (go_returns; go_light)
  all_goals exact ⟨ret_b (by (first | rfl | (rw [Bool.eq_iff_iff]; simp [Head.bears]; done) | (rw [Bool.eq_iff_iff]; simp [Head.bears]; omega))), rfl⟩
theorem ref09_off (n m : Int) (w : World) : Calls Tryz.prog 81 #[.int .i64 n, .int .i64 m] w fun e w' => e = .returned (.bool (!decide (0 ≤ n ∧ n < m))) ∧ w = w' := by
  go_enter Tryz.func81, Tryz.ntmps81
  go_wp2
  all_goals (go_returns; go_light)
  all_goals exact ⟨ret_b (by (first | rfl | (rw [Bool.eq_iff_iff]; simp [decide_eq_true_eq]; done) | (rw [Bool.eq_iff_iff]; simp [decide_eq_true_eq]; omega))), rfl⟩
set_option maxHeartbeats 1000000 in
theorem ref09_size (k : Int) (long : Bool) (w : World) : Calls Tryz.prog 80 #[.int .i64 k, .bool long] w fun e w' => e = .returned (.int .i64 (Head.size k long)) ∧ w = w' := by
  go_enter Tryz.func80, Tryz.ntmps80
  go_wp2_with (go_at_call 50; refine (ref09_acks _ _).mono ?_; rintro e w1 ⟨rfl, rfl⟩)
  all_goals (go_returns; go_light)
  all_goals refine ⟨ret_i ?_, rfl⟩
  all_goals simp only [Head.size, Head.known, Head.acks, Head.more, Head.brief, Bool.false_eq_true, ↓reduceIte, decide_eq_true_eq, decide_eq_false_iff_not, Bool.true_eq_false, true_and, false_and, or_false, beq_iff_eq, beq_eq_false_iff_ne, ne_eq, Bool.not_eq_true] at *
  all_goals (repeat' split)
  all_goals first | rfl | omega | (simp_all; done) | (simp_all; omega) | skip
end Go.Proofs.YtopeaafcepgnhaaGreat
namespace Go.Proofs.YtopeaafcepgnhaaGreat
end Go.Proofs.YtopeaafcepgnhaaGreat
namespace Go.Proofs.YtopeaafcepgnhaaGreat
open Go.RowKit Sym
def tHeadAcks : List Value → Option (List Prop × Value) | [.int .i64 k] => some ([], .bool (Head.acks k)) | _ => none
def tHeadBears : List Value → Option (List Prop × Value) | [.int .i64 k] => some ([], .bool (Head.bears k)) | _ => none
def tHeadSize : List Value → Option (List Prop × Value) | [.int .i64 k, .bool b] => some ([], .int .i64 (Head.size k b)) | _ => none
def tHeadCheck : List Value → Option (List Prop × Value) | [.agg ⟨[.int .i64 a, .int .i64 b, .int .i64 c, .int .i64 d, .int .i64 e, .int .i64 f, .int .i64 g, .bool h, .int .i64 i]⟩] => some ([], .int .i64 (Head.check ⟨a, b, c, d, e, f, g, h, i⟩)) | _ => none
def tRefOff : List Value → Option (List Prop × Value) | [.int .i64 n, .int .i64 m] => some ([], .bool (!decide (0 ≤ n ∧ n < m))) | _ => none
def SHead  : Tab := addS 91 tHeadAcks <| addS 111 tHeadBears <| addS 108 tHeadSize <| addS 84 tHeadCheck <| addS 50 tHeadAcks <| addS 82 tHeadBears <| addS 80 tHeadSize <| addS 81 tRefOff <| noS
theorem SHead_ok : TabOk Tryz.prog (SHead) := by
  refine addS_ok (addS_ok (addS_ok (addS_ok (addS_ok (addS_ok (addS_ok (addS_ok (noS_ok) (by kernel_rfl) ?_) (by kernel_rfl) ?_) (by kernel_rfl) ?_) (by kernel_rfl) ?_) (by kernel_rfl) ?_) (by kernel_rfl) ?_) (by kernel_rfl) ?_) (by kernel_rfl) ?_
  · (intro xs p v h hp w; unfold tRefOff at h; (split at h) <;> first | (cases h; done) | (simp only [Option.some.injEq, Prod.mk.injEq] at h; obtain ⟨rfl, rfl⟩ := h; exact of_same (ref09_off _ _ w)))
  · (intro xs p v h hp w; unfold tHeadSize at h; (split at h) <;> first | (cases h; done) | (simp only [Option.some.injEq, Prod.mk.injEq] at h; obtain ⟨rfl, rfl⟩ := h; exact of_same (ref09_size _ _ w)))
  · (intro xs p v h hp w; unfold tHeadBears at h; (split at h) <;> first | (cases h; done) | (simp only [Option.some.injEq, Prod.mk.injEq] at h; obtain ⟨rfl, rfl⟩ := h; exact of_same (ref09_bears _ w)))
  · (intro xs p v h hp w; unfold tHeadAcks at h; (split at h) <;> first | (cases h; done) | (simp only [Option.some.injEq, Prod.mk.injEq] at h; obtain ⟨rfl, rfl⟩ := h; exact of_same (ref09_acks _ w)))
  · (intro xs p v h hp w; unfold tHeadCheck at h; (split at h) <;> first | (cases h; done) | (simp only [Option.some.injEq, Prod.mk.injEq] at h; obtain ⟨rfl, rfl⟩ := h; exact head_check _ w))
  · (intro xs p v h hp w; unfold tHeadSize at h; (split at h) <;> first | (cases h; done) | (simp only [Option.some.injEq, Prod.mk.injEq] at h; obtain ⟨rfl, rfl⟩ := h; exact head_size _ _ w))
  · (intro xs p v h hp w; unfold tHeadBears at h; (split at h) <;> first | (cases h; done) | (simp only [Option.some.injEq, Prod.mk.injEq] at h; obtain ⟨rfl, rfl⟩ := h; exact head_bears _ w))
  · (intro xs p v h hp w; unfold tHeadAcks at h; (split at h) <;> first | (cases h; done) | (simp only [Option.some.injEq, Prod.mk.injEq] at h; obtain ⟨rfl, rfl⟩ := h; exact head_acks _ w))
end Go.Proofs.YtopeaafcepgnhaaGreat
namespace Go.Proofs.YtopeaafcepgnhaaGreat
open Go.RowKit Sym
set_option maxRecDepth 100000 in
theorem ref09_check_run (src dst words ccval cover sum kind seq : Int) (long : Bool) : runV Tryz.prog (onlyS Tryz.prog SHead) noL Tryz.f48 [.agg #[.int .i64 src, .int .i64 dst, .int .i64 words, .int .i64 ccval, .int .i64 cover, .int .i64 sum, .int .i64 kind, .bool long, .int .i64 seq]] = .ite (decide (kind < (0 : Int))) (.leaf (Value.int IntKind.i64 7)) (.ite (decide (kind > (9 : Int))) (.leaf (Value.int IntKind.i64 7)) (.ite (decide (Head.size kind long = (0 : Int))) (.leaf (Value.int IntKind.i64 4)) (.ite (!decide ((0 : Int) ≤ src ∧ src < (65536 : Int))) (.leaf (Value.int IntKind.i64 3)) (.ite (!decide ((0 : Int) ≤ dst ∧ dst < (65536 : Int))) (.leaf (Value.int IntKind.i64 3)) (.ite (!decide ((0 : Int) ≤ sum ∧ sum < (65536 : Int))) (.leaf (Value.int IntKind.i64 3)) (.ite (!decide ((0 : Int) ≤ ccval ∧ ccval < (16 : Int))) (.leaf (Value.int IntKind.i64 3)) (.ite (!decide ((0 : Int) ≤ cover ∧ cover < (16 : Int))) (.leaf (Value.int IntKind.i64 3)) (.ite (!decide ((0 : Int) ≤ words ∧ words < (256 : Int))) (.leaf (Value.int IntKind.i64 3)) (.ite long (.ite (!decide ((0 : Int) ≤ seq ∧ seq < (281474976710656 : Int))) (.leaf (Value.int IntKind.i64 3)) (.ite (!long) (.ite (!decide ((0 : Int) ≤ seq ∧ seq < (16777216 : Int))) (.leaf (Value.int IntKind.i64 3)) (.ite (decide (IntKind.i64.wrap ((4 : Int) * words) < Head.size kind long)) (.leaf (Value.int IntKind.i64 1)) (.leaf (Value.int IntKind.i64 0)))) (.ite (decide (IntKind.i64.wrap ((4 : Int) * words) < Head.size kind long)) (.leaf (Value.int IntKind.i64 1)) (.leaf (Value.int IntKind.i64 0))))) (.ite (!long) (.ite (!decide ((0 : Int) ≤ seq ∧ seq < (16777216 : Int))) (.leaf (Value.int IntKind.i64 3)) (.ite (decide (IntKind.i64.wrap ((4 : Int) * words) < Head.size kind long)) (.leaf (Value.int IntKind.i64 1)) (.leaf (Value.int IntKind.i64 0)))) (.ite (decide (IntKind.i64.wrap ((4 : Int) * words) < Head.size kind long)) (.leaf (Value.int IntKind.i64 1)) (.leaf (Value.int IntKind.i64 0))))))))))))) := by kernel_rfl
theorem ref09_check (h : Head.H) (w : World) : Calls Tryz.prog 48 #[h.v] w fun e w' => e = .returned (.int .i64 (Head.check h)) ∧ Below w.heap.size w w' := by
  obtain ⟨src, dst, words, ccval, cover, sum, kind, long, seq⟩ := h
  refine calls_runV (onlyS_ok SHead_ok) follows Tryz.func48 (by kernel_rfl) (by kernel_rfl) noL_ok (ref09_check_run src dst words ccval cover sum kind seq long) ?_ w
  have hwr : (0 ≤ words ∧ words < 256) → IntKind.i64.wrap (4 * words) = 4 * words := fun h => IntWalk.i64_in _ (by omega)
  simp only [T.ok, Head.check, Head.wi, Head.most, Head.size, Head.known, Head.brief]
  grind
def SHead2  : Tab := addS 48 tHeadCheck <| SHead
theorem SHead2_ok : TabOk Tryz.prog (SHead2) := by
  refine addS_ok (SHead_ok) (by kernel_rfl) ?_
  · (intro xs p v h hp w; unfold tHeadCheck at h; (split at h) <;> first | (cases h; done) | (simp only [Option.some.injEq, Prod.mk.injEq] at h; obtain ⟨rfl, rfl⟩ := h; exact ref09_check _ w))
def SHead3  : Tab := SHead2
theorem SHead3_ok : TabOk Tryz.prog (SHead3) := SHead2_ok
end Go.Proofs.YtopeaafcepgnhaaGreat
namespace Go.Proofs.YtopeaafcepgnhaaGreat
open Go.RowKit
end Go.Proofs.YtopeaafcepgnhaaGreat
namespace Go.Proofs.YtopeaafcepgnhaaGreat
open Go.RowKit Sym Sha Go.ChangeShapes Go.WideShapes Go.ChangeMaps
end Go.Proofs.YtopeaafcepgnhaaGreat
namespace Go.Proofs.YtopeaafcepgnhaaGreat
open Go.RowKit Sym Sha Go.ChangeShapes Go.WideShapes Go.ChangeMaps
end Go.Proofs.YtopeaafcepgnhaaGreat
namespace Go.Proofs.YtopeaafcepgnhaaGreat
open Go.RowKit Sym Sha Go.ChangeShapes Go.WideShapes Go.ChangeMaps
end Go.Proofs.YtopeaafcepgnhaaGreat
namespace Go.Proofs.YtopeaafcepgnhaaGreat
open Go.RowKit Sym Sha Go.ChangeShapes Go.WideShapes Go.ChangeMaps
end Go.Proofs.YtopeaafcepgnhaaGreat
namespace Go.Proofs.YtopeaafcepgnhaaGreat
open Go.RowKit Sym Sha Go.ChangeShapes Go.WideShapes Go.ChangeMaps
end Go.Proofs.YtopeaafcepgnhaaGreat
namespace Go.Proofs.YtopeaafcepgnhaaGreat.Inet
end Go.Proofs.YtopeaafcepgnhaaGreat.Inet
namespace Go.Proofs.YtopeaafcepgnhaaGreat
open Go.RowKit Sym Sha Go.ChangeShapes Go.WideShapes Go.ChangeMaps Inet
set_option maxRecDepth 100000 in
theorem cov_run (h d : ByteArray) (c : Int) : runV Tryz.prog (onlyS Tryz.prog noS) noL Tryz.f87 [.string h, .string d, .int .i64 c] = .ite (decide (c < (0 : Int))) (.leaf (Value.tuple (Array.mk [Value.string (ByteArray.mk (Array.mk [])), Value.bool false]))) (.ite (decide (c > (15 : Int))) (.leaf (Value.tuple (Array.mk [Value.string (ByteArray.mk (Array.mk [])), Value.bool false]))) (.ite (decide (IntKind.i64.wrap ((4 : Int) * IntKind.i64.wrap (c - (1 : Int))) > (↑d.size : Int))) (.leaf (Value.tuple (Array.mk [Value.string (ByteArray.mk (Array.mk [])), Value.bool false]))) (.ite (decide (c = (0 : Int))) (.need ((0 : Int) ≤ (0 : Int) ∧ (0 : Int) ≤ (↑d.size : Int) ∧ (↑d.size : Int) ≤ (↑d.size : Int)) (.need (h.size + (d.extract 0 (↑d.size : Int).toNat).size ≤ 9223372036854775807) (.leaf (Value.tuple (Array.mk [Value.string (h ++ d.extract 0 (↑d.size : Int).toNat), Value.bool true]))))) (.need ((0 : Int) ≤ (0 : Int) ∧ (0 : Int) ≤ IntKind.i64.wrap ((4 : Int) * IntKind.i64.wrap (c - (1 : Int))) ∧ IntKind.i64.wrap ((4 : Int) * IntKind.i64.wrap (c - (1 : Int))) ≤ (↑d.size : Int)) (.need (h.size + (d.extract 0 (IntKind.i64.wrap ((4 : Int) * IntKind.i64.wrap (c - (1 : Int)))).toNat).size ≤ 9223372036854775807) (.leaf (Value.tuple (Array.mk [Value.string (h ++ d.extract 0 (IntKind.i64.wrap ((4 : Int) * IntKind.i64.wrap (c - (1 : Int)))).toNat), Value.bool true])))))))) := by kernel_rfl
set_option maxRecDepth 100000 in
theorem covR_run (h d : ByteArray) (c : Int) : runV Tryz.prog (onlyS Tryz.prog noS) noL Tryz.f52 [.string h, .string d, .int .i64 c] = .ite (decide (c < (0 : Int))) (.leaf (Value.tuple (Array.mk [Value.string (ByteArray.mk (Array.mk [])), Value.bool false]))) (.ite (decide (c > (15 : Int))) (.leaf (Value.tuple (Array.mk [Value.string (ByteArray.mk (Array.mk [])), Value.bool false]))) (.ite (decide (c = (0 : Int))) (.need (h.size + d.size ≤ 9223372036854775807) (.leaf (Value.tuple (Array.mk [Value.string (h ++ d), Value.bool true])))) (.ite (decide (IntKind.i64.wrap ((4 : Int) * IntKind.i64.wrap (c - (1 : Int))) > (↑d.size : Int))) (.leaf (Value.tuple (Array.mk [Value.string (ByteArray.mk (Array.mk [])), Value.bool false]))) (.need ((0 : Int) ≤ (0 : Int) ∧ (0 : Int) ≤ IntKind.i64.wrap ((4 : Int) * IntKind.i64.wrap (c - (1 : Int))) ∧ IntKind.i64.wrap ((4 : Int) * IntKind.i64.wrap (c - (1 : Int))) ≤ (↑d.size : Int)) (.need (h.size + (d.extract 0 (IntKind.i64.wrap ((4 : Int) * IntKind.i64.wrap (c - (1 : Int)))).toNat).size ≤ 9223372036854775807) (.leaf (Value.tuple (Array.mk [Value.string (h ++ d.extract 0 (IntKind.i64.wrap ((4 : Int) * IntKind.i64.wrap (c - (1 : Int)))).toNat), Value.bool true])))))))) := by kernel_rfl
end Go.Proofs.YtopeaafcepgnhaaGreat
namespace Go.Proofs.YtopeaafcepgnhaaGreat
open Go.RowKit Sym Sha Go.ChangeShapes Go.WideShapes Go.ChangeMaps Inet
def covOk (d : ByteArray) (c : Int) : Bool := decide (0 ≤ c ∧ c ≤ 15 ∧ (c = 0 ∨ 4 * (c - 1) ≤ d.size))
def covB (h d : ByteArray) (c : Int) : ByteArray := if covOk d c = true then (if c = 0 then h ++ d else h ++ d.extract 0 (4 * (c - 1)).toNat) else ⟨⟨[]⟩⟩
end Go.Proofs.YtopeaafcepgnhaaGreat
namespace Go.Proofs.YtopeaafcepgnhaaGreat
open Go.RowKit Sym Go.ChangeShapes Go.WideShapes Go.ChangeMaps Inet
structure Pk where
  kind : Int
  long : Bool
  src : Int
  dst : Int
  ccval : Int
  cover : Int
  seq : Int
  ack : Int
  service : Int
  code : Int
  detail : Int
  data : ByteArray
def Pk.v (p : Pk) (o : Value) : Value := .agg #[.int .i64 p.kind, .bool p.long, .int .i64 p.src, .int .i64 p.dst, .int .i64 p.ccval, .int .i64 p.cover, .int .i64 p.seq, .int .i64 p.ack, .int .i64 p.service, .int .i64 p.code, .int .i64 p.detail, o, .string p.data]
abbrev Pk.s (p : Pk) (o : SV) : SV := .agg [.v (.int .i64 p.kind), .v (.bool p.long), .v (.int .i64 p.src), .v (.int .i64 p.dst), .v (.int .i64 p.ccval), .v (.int .i64 p.cover), .v (.int .i64 p.seq), .v (.int .i64 p.ack), .v (.int .i64 p.service), .v (.int .i64 p.code), .v (.int .i64 p.detail), o, .v (.string p.data)]
theorem Pk.s_to (p : Pk) {B : List Value} {o : SV} {u : Value} (h : o.to B = some u) : (p.s o).to B = some (p.v u) := by
  simp [Pk.s, Pk.v, SV.to, SV.tos, h]
def sInt : SV → Option Int | .v (.int .i64 z) => some z | _ => none
def sBool : SV → Option Bool | .v (.bool b) => some b | _ => none
def sStr : SV → Option ByteArray | .v (.string b) => some b | _ => none
theorem sInt_ok {s : SV} {z : Int} (h : sInt s = some z) : s = .v (.int .i64 z) := by
  unfold sInt at h
  split at h
  · simp only [Option.some.injEq] at h; subst h; rfl
  · cases h
theorem sBool_ok {s : SV} {z : Bool} (h : sBool s = some z) : s = .v (.bool z) := by
  unfold sBool at h
  split at h
  · simp only [Option.some.injEq] at h; subst h; rfl
  · cases h
theorem sStr_ok {s : SV} {z : ByteArray} (h : sStr s = some z) : s = .v (.string z) := by
  unfold sStr at h
  split at h
  · simp only [Option.some.injEq] at h; subst h; rfl
  · cases h
def pkOf : List SV → Option (Pk × SV)
  | [a, b, c, d, e, f, g, h, i, j, k, o, m] => (sInt a).bind fun a => (sBool b).bind fun b => (sInt c).bind fun c => (sInt d).bind fun d => (sInt e).bind fun e => (sInt f).bind fun f => (sInt g).bind fun g => (sInt h).bind fun h => (sInt i).bind fun i => (sInt j).bind fun j => (sInt k).bind fun k => (sStr m).bind fun m => some (⟨a, b, c, d, e, f, g, h, i, j, k, m⟩, o)
  | _ => none
theorem pkOf_ok {l : List SV} {p : Pk} {o : SV} (h : pkOf l = some (p, o)) : SV.agg l = p.s o := by
  unfold pkOf at h
  split at h
  · simp only [Option.bind_eq_some_iff, Option.some.injEq, Prod.mk.injEq] at h
    obtain ⟨a, ha, b, hb, c, hc, d, hd, e, he, f, hf, g, hg, h, hh, i, hi, j, hj, k, hk, m, hm, rfl, rfl⟩ := h
    rw [sInt_ok ha, sBool_ok hb, sInt_ok hc, sInt_ok hd, sInt_ok he, sInt_ok hf, sInt_ok hg, sInt_ok hh, sInt_ok hi, sInt_ok hj, sInt_ok hk, sStr_ok hm]
  · cases h
def pkIn (H : List Blk) (s : SV) : Option (Pk × Nat × (Nat → Nat → Value)) := (aggOf s).bind fun l => (pkOf l).bind fun r => (rowIn 2 H r.2).bind fun q => some (r.1, q.1, q.2)
theorem pkIn_ok {w0 : World} {bs : List Nat} {H : List Blk} {B : List Value} {w : World} (hm : Mem w0 bs H B w) {s : SV} {u : Value} (hs : s.to B = some u) {p : Pk} {n : Nat} {f : Nat → Nat → Value} (h : pkIn H s = some (p, n, f)) :
    ∃ o, u = p.v o ∧ ∀ B', BlkSat B' w o (.row n 2 f) := by
  unfold pkIn at h
  simp only [Option.bind_eq_some_iff, Option.some.injEq, Prod.mk.injEq] at h
  obtain ⟨l, hl, ⟨p', so⟩, hp, ⟨n', f'⟩, hr, rfl, rfl, rfl⟩ := h
  obtain ⟨vs, hv, rfl⟩ := aggOf_ok hs hl
  have e := pkOf_ok hp
  simp only [Pk.s, SV.agg.injEq] at e
  subst e
  obtain ⟨x0, r0, e0, v0, rfl⟩ := tos_cons hv
  obtain ⟨x1, r1, e1, v1, rfl⟩ := tos_cons v0
  obtain ⟨x2, r2, e2, v2, rfl⟩ := tos_cons v1
  obtain ⟨x3, r3, e3, v3, rfl⟩ := tos_cons v2
  obtain ⟨x4, r4, e4, v4, rfl⟩ := tos_cons v3
  obtain ⟨x5, r5, e5, v5, rfl⟩ := tos_cons v4
  obtain ⟨x6, r6, e6, v6, rfl⟩ := tos_cons v5
  obtain ⟨x7, r7, e7, v7, rfl⟩ := tos_cons v6
  obtain ⟨x8, r8, e8, v8, rfl⟩ := tos_cons v7
  obtain ⟨x9, r9, e9, v9, rfl⟩ := tos_cons v8
  obtain ⟨x10, r10, e10, v10, rfl⟩ := tos_cons v9
  obtain ⟨x11, r11, e11, v11, rfl⟩ := tos_cons v10
  obtain ⟨x12, r12, e12, v12, rfl⟩ := tos_cons v11
  obtain rfl := tos_nil v12
  simp only [SV.to, Option.some.injEq] at e0 e1 e2 e3 e4 e5 e6 e7 e8 e9 e10 e12
  subst e0 e1 e2 e3 e4 e5 e6 e7 e8 e9 e10 e12
  exact ⟨x11, rfl, rowIn_ok hm e11 hr⟩
def rdP (pp : Pk → Nat → (Nat → Nat → Value) → Prop) (r : Pk → Nat → (Nat → Nat → Value) → Value) : List SV → List Blk → Option (List Prop × Value)
  | [s], H => (pkIn H s).bind fun q => some ([pp q.1 q.2.1 q.2.2], r q.1 q.2.1 q.2.2)
  | _, _ => none
theorem rdP_ok {P : Program} {k : FuncId} {pp : Pk → Nat → (Nat → Nat → Value) → Prop} {r : Pk → Nat → (Nat → Nat → Value) → Value} (hc : ∀ (p : Pk) (n : Nat) (fr : Nat → Nat → Value) (o : Value) (w : World), (∀ B, BlkSat B w o (.row n 2 fr)) → pp p n fr → Calls P k #[p.v o] w fun e w' => e = .returned (r p n fr) ∧ Below w.heap.size w w') : ReadOk P k (rdP pp r) := by
  intro ss H q v h bs B w vs hm hv hp
  unfold rdP at h
  split at h
  · simp only [Option.bind_eq_some_iff, Option.some.injEq, Prod.mk.injEq] at h
    obtain ⟨⟨p, n, f⟩, hr, rfl, rfl⟩ := h
    obtain ⟨x0, r0, e0, v0, rfl⟩ := tos_cons hv
    obtain rfl := tos_nil v0
    obtain ⟨o, rfl, hb⟩ := pkIn_ok hm e0 hr
    exact hc p n f o w hb (hp _ (List.mem_cons_self ..))
  · cases h
theorem mem_rows {w : World} {u v : Value} {n m sz tz : Nat} {f g : Nat → Nat → Value} (h : ∀ B, BlkSat B w u (.row n sz f)) (h' : ∀ B, BlkSat B w v (.row m tz g)) : Mem w [] [.row n sz f, .row m tz g] [u, v] w := by
  have noex : ∀ k b, ¬ ExBlk [.row n sz f, .row m tz g] [u, v] k b := by
    rintro k b ⟨x, y, g1, g2, -, -⟩
    match k with
    | 0 => simp only [List.getElem?_cons_zero, Option.some.injEq] at g1; subst g1; cases g2
    | 1 => simp only [List.getElem?_cons_succ, List.getElem?_cons_zero, Option.some.injEq] at g1; subst g1; cases g2
    | k + 2 => simp at g1
  refine ⟨⟨rfl, fun k x y h1 h2 => ?_, fun k j b h1 h2 => absurd h1 (noex k b), fun k j b h1 h2 => absurd h1 (noex k b)⟩, .refl _ _, fun k b h1 => absurd h1 (noex k b)⟩
  match k with
  | 0 => simp only [List.getElem?_cons_zero, Option.some.injEq] at h1 h2; subst h1; subst h2; exact h _
  | 1 => simp only [List.getElem?_cons_succ, List.getElem?_cons_zero, Option.some.injEq] at h1 h2; subst h1; subst h2; exact h' _
  | k + 2 => simp at h1
def wn (n below : Int) : Bool := decide (0 ≤ n ∧ n < below)
def served (k : Int) : Bool := decide (k = 0 ∨ k = 1)
def numP (p : Pk) : Bool := !(Head.acks p.kind && !wn p.ack (Head.most p.long) || served p.kind && !wn p.service 4294967296) && (!decide (p.kind = 7) || wn p.code 256 && wn p.detail 16777216)
def spareP (p : Pk) : Bool := (!Head.acks p.kind && !decide (p.ack = 0)) || (!served p.kind && !decide (p.service = 0)) || (!decide (p.kind = 7) && (!decide (p.code = 0) || !decide (p.detail = 0))) || (!Head.bears p.kind && !decide (p.data.size = 0))
def wordsP (p : Pk) (n : Nat) (g : Nat → Op) : Int := min ((Head.size p.kind p.long + sizeL g n + 3) / 4) 255
def begH (p : Pk) (n : Nat) (g : Nat → Op) (sum : Int) : Head.H := ⟨p.src, p.dst, wordsP p n g, p.ccval, p.cover, sum, p.kind, p.long, p.seq⟩
def chkP (p : Pk) (n : Nat) (g : Nat → Op) : Int :=
  if Head.check (begH p n g 0) = 0 then
    if numP p = true then
      if chkO n g = 0 then
        if p.data.size > 200 then 11 else if spareP p = true then 4 else if covOk p.data p.cover = true then 0 else 3
      else chkO n g
    else 3
  else Head.check (begH p n g 0)
end Go.Proofs.YtopeaafcepgnhaaGreat
namespace Go.Proofs.YtopeaafcepgnhaaGreat
open Go.RowKit Sym
def kindR (s : ByteArray) (a : Nat) : Int := byteAt s a
def manyR (s : ByteArray) (a : Nat) : Int := byteAt s (a + 1 : Nat)
def pos1 (s : ByteArray) (a : Nat) : Nat := if kindR s a < 32 then a + 1 else a + (manyR s a).toNat
def err1 (s : ByteArray) (a : Nat) : Int := if kindR s a < 32 then 0 else if s.size ≤ a + 1 then 1 else if manyR s a < 2 then 4 else if (s.size : Int) < a + manyR s a then 1 else 0
def posR (s : ByteArray) : Nat → Nat
  | 0 => 0
  | i + 1 => pos1 s (posR s i)
def stopR (s : ByteArray) (i : Nat) : Bool := Nat.ble s.size (posR s i) || !decide (err1 s (posR s i) = 0)
theorem stopR_yes {s : ByteArray} {i : Nat} (h : stopR s i = true) : s.size ≤ posR s i ∨ ¬ err1 s (posR s i) = 0 := by
  unfold stopR at h
  simp only [Bool.or_eq_true, Nat.ble_eq, Bool.not_eq_true', decide_eq_false_iff_not] at h
  exact h
theorem firstOf_congr {p q : Nat → Bool} : ∀ {n i : Nat}, (∀ j, i ≤ j → j < i + n → p j = q j) → firstOf p n i = firstOf q n i := by
  intro n
  induction n with
  | zero => intro i _; rfl
  | succ n ih =>
    intro i h
    unfold firstOf
    rw [h i (Nat.le_refl _) (by omega), ih (i := i + 1) (fun j h1 h2 => h j (by omega) (by omega))]
theorem sizeL_congr {g h : Nat → Op} : ∀ {n : Nat}, (∀ i, i < n → g i = h i) → sizeL g n = sizeL h n
  | 0, _ => rfl
  | n + 1, e => by simp only [sizeL]; rw [sizeL_congr (fun i hi => e i (by omega)), e n (by omega)]
theorem chkO_congr {n : Nat} {g h : Nat → Op} (e : ∀ i, i < n → g i = h i) : chkO n g = chkO n h := by
  have e1 : badE n g = badE n h := firstOf_congr fun j _ hj => by unfold badO; rw [e j (by omega)]
  have e2 : mandE n g = mandE n h := firstOf_congr fun j _ hj => by
    unfold mandO
    rw [e j (by omega)]
    by_cases hl : j + 1 < n
    · rw [e (j + 1) hl]
    · have : j + 1 = n := by omega
      simp [this]
  unfold chkO
  rw [e1, e2, sizeL_congr e]
  by_cases hb : badE n h < n
  · rw [if_pos hb, if_pos hb, e _ hb]
  · rw [if_neg hb, if_neg hb]
end Go.Proofs.YtopeaafcepgnhaaGreat
namespace Go.Proofs.YtopeaafcepgnhaaGreat
open Go.RowKit Sym Go.ChangeShapes Go.WideShapes Go.ChangeMaps Inet
def covV (h d : ByteArray) (c : Int) : Value := .tuple #[.string (covB h d c), .bool (covOk d c)]
theorem inet_Covered (h d : ByteArray) (c : Int) (hs : h.size ≤ 1000000 ∧ d.size ≤ 1000000) (w : World) : Calls Tryz.prog 87 #[.string h, .string d, .int .i64 c] w fun e w' => e = .returned (covV h d c) ∧ Below w.heap.size w w' := by
  refine calls_runV (onlyS_ok noS_ok) follows Tryz.func87 (by kernel_rfl) (by kernel_rfl) noL_ok (cov_run h d c) ?_ w
  obtain ⟨h1, h2⟩ := hs
  unfold covV covB covOk
  have hw : 0 ≤ c → c ≤ 15 → IntKind.i64.wrap (4 * IntKind.i64.wrap (c - 1)) = 4 * (c - 1) := fun a b => by rw [w64 (c - 1) (by omega) (by omega), w64 _ (by omega) (by omega)]
  have e0 : d.extract 0 d.size = d := by apply ByteArray.ext; simp
  by_cases c0 : 0 ≤ c
  · by_cases c1 : c ≤ 15
    · rw [hw c0 c1]
      by_cases cz : c = 0
      · subst cz
        simp [T.ok, e0] <;> omega
      · by_cases cd : 4 * (c - 1) ≤ d.size
        · simp [T.ok, c0, c1, cz, cd] <;> omega
        · simp [T.ok, c0, c1, cz, cd] <;> omega
    · simp [T.ok, c0, c1] <;> omega
  · simp [T.ok, c0] <;> omega
theorem ref04_Covered (h d : ByteArray) (c : Int) (hs : h.size ≤ 1000000 ∧ d.size ≤ 1000000) (w : World) : Calls Tryz.prog 52 #[.string h, .string d, .int .i64 c] w fun e w' => e = .returned (covV h d c) ∧ Below w.heap.size w w' := by
  refine calls_runV (onlyS_ok noS_ok) follows Tryz.func52 (by kernel_rfl) (by kernel_rfl) noL_ok (covR_run h d c) ?_ w
  obtain ⟨h1, h2⟩ := hs
  unfold covV covB covOk
  have hw : 0 ≤ c → c ≤ 15 → IntKind.i64.wrap (4 * IntKind.i64.wrap (c - 1)) = 4 * (c - 1) := fun a b => by rw [w64 (c - 1) (by omega) (by omega), w64 _ (by omega) (by omega)]
  by_cases c0 : 0 ≤ c
  · by_cases c1 : c ≤ 15
    · rw [hw c0 c1]
      by_cases cz : c = 0
      · subst cz
        simp [T.ok] <;> omega
      · by_cases cd : 4 * (c - 1) ≤ d.size
        · simp [T.ok, c0, c1, cz, cd] <;> omega
        · simp [T.ok, c0, c1, cz, cd] <;> omega
    · simp [T.ok, c0, c1] <;> omega
  · simp [T.ok, c0] <;> omega
def tCov : List Value → Option (List Prop × Value) | [.string h, .string d, .int .i64 c] => some ([h.size ≤ 1000000 ∧ d.size ≤ 1000000], .tuple #[.string (covB h d c), .bool (covOk d c)]) | _ => none
set_option maxRecDepth 100000 in
theorem pserved_run (k : Int) : runV Tryz.prog (onlyS Tryz.prog noS) noL Tryz.f110 [.int .i64 k] = .ite (decide (k = (0 : Int))) (.leaf (Value.bool true)) (.leaf (Value.bool (decide (k = (1 : Int))))) := by kernel_rfl
theorem packet_served (k : Int) (w : World) : Calls Tryz.prog 110 #[.int .i64 k] w fun e w' => e = .returned (.bool (served k)) ∧ Below w.heap.size w w' := by
  refine calls_runV (onlyS_ok noS_ok) follows Tryz.func110 (by kernel_rfl) (by kernel_rfl) noL_ok (pserved_run k) ?_ w
  unfold served
  by_cases h0 : k = 0 <;> by_cases h1 : k = 1 <;> simp [T.ok, h0, h1]
set_option maxRecDepth 100000 in
theorem pwithin_run (n m : Int) : runV Tryz.prog (onlyS Tryz.prog noS) noL Tryz.f109 [.int .i64 n, .int .i64 m] = .ite (decide (n ≥ (0 : Int))) (.leaf (Value.bool (decide (n < m)))) (.leaf (Value.bool false)) := by kernel_rfl
theorem packet_within (n m : Int) (w : World) : Calls Tryz.prog 109 #[.int .i64 n, .int .i64 m] w fun e w' => e = .returned (.bool (wn n m)) ∧ Below w.heap.size w w' := by
  refine calls_runV (onlyS_ok noS_ok) follows Tryz.func109 (by kernel_rfl) (by kernel_rfl) noL_ok (pwithin_run n m) ?_ w
  unfold wn
  by_cases h0 : 0 ≤ n <;> by_cases h1 : n < m <;> simp [T.ok, h0, h1]
set_option maxRecDepth 100000 in
theorem roff_run (n m : Int) : runV Tryz.prog (onlyS Tryz.prog noS) noL Tryz.f51 [.int .i64 n, .int .i64 m] = .ite (decide (n < (0 : Int))) (.leaf (Value.bool true)) (.leaf (Value.bool (decide (n ≥ m)))) := by kernel_rfl
theorem ref10_off (n m : Int) (w : World) : Calls Tryz.prog 51 #[.int .i64 n, .int .i64 m] w fun e w' => e = .returned (.bool (!wn n m)) ∧ Below w.heap.size w w' := by
  refine calls_runV (onlyS_ok noS_ok) follows Tryz.func51 (by kernel_rfl) (by kernel_rfl) noL_ok (roff_run n m) ?_ w
  unfold wn
  by_cases h0 : 0 ≤ n <;> by_cases h1 : n < m <;> simp [T.ok, h0, h1] <;> omega
def tServed : List Value → Option (List Prop × Value) | [.int .i64 k] => some ([], .bool (served k)) | _ => none
def tWn : List Value → Option (List Prop × Value) | [.int .i64 n, .int .i64 m] => some ([], .bool (wn n m)) | _ => none
def tWnN : List Value → Option (List Prop × Value) | [.int .i64 n, .int .i64 m] => some ([], .bool (!wn n m)) | _ => none
def SPk0 : Tab := addS 110 tServed <| addS 109 tWn <| addS 51 tWnN <| addS 87 tCov <| addS 52 tCov SHead3
theorem SPk0_ok : TabOk Tryz.prog SPk0 := by
  refine addS_ok (addS_ok (addS_ok (addS_ok (addS_ok SHead3_ok (by kernel_rfl) ?_) (by kernel_rfl) ?_) (by kernel_rfl) ?_) (by kernel_rfl) ?_) (by kernel_rfl) ?_
  · (intro xs p v h hp w; unfold tCov at h; (split at h) <;> first | (cases h; done) | (simp only [Option.some.injEq, Prod.mk.injEq] at h; obtain ⟨rfl, rfl⟩ := h; exact ref04_Covered _ _ _ (hp _ (List.mem_cons_self ..)) w))
  · (intro xs p v h hp w; unfold tCov at h; (split at h) <;> first | (cases h; done) | (simp only [Option.some.injEq, Prod.mk.injEq] at h; obtain ⟨rfl, rfl⟩ := h; exact inet_Covered _ _ _ (hp _ (List.mem_cons_self ..)) w))
  · (intro xs p v h hp w; unfold tWnN at h; (split at h) <;> first | (cases h; done) | (simp only [Option.some.injEq, Prod.mk.injEq] at h; obtain ⟨rfl, rfl⟩ := h; exact ref10_off _ _ w))
  · (intro xs p v h hp w; unfold tWn at h; (split at h) <;> first | (cases h; done) | (simp only [Option.some.injEq, Prod.mk.injEq] at h; obtain ⟨rfl, rfl⟩ := h; exact packet_within _ _ w))
  · (intro xs p v h hp w; unfold tServed at h; (split at h) <;> first | (cases h; done) | (simp only [Option.some.injEq, Prod.mk.injEq] at h; obtain ⟨rfl, rfl⟩ := h; exact packet_served _ w))
def FOpt2 : LTab := addR 32 (rd1 2 OpP fun n f => .int .i64 (chkO n (opF f))) <| addR 37 (rd1 2 OpP fun n f => .int .i64 (chkO n (opF f))) FOpt1
theorem FOpt2_ok : LOk Tryz.prog FOpt2 := addR_ok (addR_ok FOpt1_ok (by kernel_rfl) (rd1_ok fun n f v w hv hp => ref07_Check n (opF f) hp.2 v w (op_row hv hp.1)))
  (by kernel_rfl) (rd1_ok fun n f v w hv hp => opts_Check n (opF f) hp.2 v w (op_row hv hp.1))
abbrev fsOpt : List Nat := [72, 73, 32, 37]
abbrev CP0 (P : Program) : Cfg := both P SPk0 FOpt2 fsOpt
theorem CP0_ok : CfgOk Tryz.prog (CP0 Tryz.prog) := both_ok SPk0_ok FOpt2_ok
set_option maxRecDepth 100000 in
theorem pnum_run (p : Pk) (n : Nat) (f : Nat → Nat → Value) : runO Tryz.prog (CP0 Tryz.prog) noL Tryz.f86 [p.s (.ref 0)] [.row n 2 f] = .ite p.2 (.ite (Head.acks p.1) (.ite (!wn p.8 (281474976710656 : Int)) (.leaf (Value.bool false)) (.ite (served p.1) (.ite (!wn p.9 (4294967296 : Int)) (.leaf (Value.bool false)) (.ite (!decide (p.1 = (7 : Int))) (.leaf (Value.bool true)) (.ite (wn p.10 (256 : Int)) (.leaf (Value.bool (wn p.11 (16777216 : Int)))) (.leaf (Value.bool false))))) (.ite (!decide (p.1 = (7 : Int))) (.leaf (Value.bool true)) (.ite (wn p.10 (256 : Int)) (.leaf (Value.bool (wn p.11 (16777216 : Int)))) (.leaf (Value.bool false)))))) (.ite (served p.1) (.ite (!wn p.9 (4294967296 : Int)) (.leaf (Value.bool false)) (.ite (!decide (p.1 = (7 : Int))) (.leaf (Value.bool true)) (.ite (wn p.10 (256 : Int)) (.leaf (Value.bool (wn p.11 (16777216 : Int)))) (.leaf (Value.bool false))))) (.ite (!decide (p.1 = (7 : Int))) (.leaf (Value.bool true)) (.ite (wn p.10 (256 : Int)) (.leaf (Value.bool (wn p.11 (16777216 : Int)))) (.leaf (Value.bool false)))))) (.ite (Head.acks p.1) (.ite (!wn p.8 (16777216 : Int)) (.leaf (Value.bool false)) (.ite (served p.1) (.ite (!wn p.9 (4294967296 : Int)) (.leaf (Value.bool false)) (.ite (!decide (p.1 = (7 : Int))) (.leaf (Value.bool true)) (.ite (wn p.10 (256 : Int)) (.leaf (Value.bool (wn p.11 (16777216 : Int)))) (.leaf (Value.bool false))))) (.ite (!decide (p.1 = (7 : Int))) (.leaf (Value.bool true)) (.ite (wn p.10 (256 : Int)) (.leaf (Value.bool (wn p.11 (16777216 : Int)))) (.leaf (Value.bool false)))))) (.ite (served p.1) (.ite (!wn p.9 (4294967296 : Int)) (.leaf (Value.bool false)) (.ite (!decide (p.1 = (7 : Int))) (.leaf (Value.bool true)) (.ite (wn p.10 (256 : Int)) (.leaf (Value.bool (wn p.11 (16777216 : Int)))) (.leaf (Value.bool false))))) (.ite (!decide (p.1 = (7 : Int))) (.leaf (Value.bool true)) (.ite (wn p.10 (256 : Int)) (.leaf (Value.bool (wn p.11 (16777216 : Int)))) (.leaf (Value.bool false)))))) := by kernel_rfl
set_option maxRecDepth 100000 in
theorem pspare_run (p : Pk) (n : Nat) (f : Nat → Nat → Value) : runO Tryz.prog (CP0 Tryz.prog) noL Tryz.f88 [p.s (.ref 0)] [.row n 2 f] = .ite (!Head.acks p.1) (.ite (!decide (p.8 = (0 : Int))) (.leaf (Value.bool true)) (.ite (!served p.1) (.ite (!decide (p.9 = (0 : Int))) (.leaf (Value.bool true)) (.ite (!decide (p.1 = (7 : Int))) (.ite (!decide (p.10 = (0 : Int))) (.leaf (Value.bool true)) (.ite (!decide (p.11 = (0 : Int))) (.leaf (Value.bool true)) (.ite (!Head.bears p.1) (.leaf (Value.bool !decide (p.12 = ByteArray.mk (Array.mk [])))) (.leaf (Value.bool false))))) (.ite (!Head.bears p.1) (.leaf (Value.bool !decide (p.12 = ByteArray.mk (Array.mk [])))) (.leaf (Value.bool false))))) (.ite (!decide (p.1 = (7 : Int))) (.ite (!decide (p.10 = (0 : Int))) (.leaf (Value.bool true)) (.ite (!decide (p.11 = (0 : Int))) (.leaf (Value.bool true)) (.ite (!Head.bears p.1) (.leaf (Value.bool !decide (p.12 = ByteArray.mk (Array.mk [])))) (.leaf (Value.bool false))))) (.ite (!Head.bears p.1) (.leaf (Value.bool !decide (p.12 = ByteArray.mk (Array.mk [])))) (.leaf (Value.bool false)))))) (.ite (!served p.1) (.ite (!decide (p.9 = (0 : Int))) (.leaf (Value.bool true)) (.ite (!decide (p.1 = (7 : Int))) (.ite (!decide (p.10 = (0 : Int))) (.leaf (Value.bool true)) (.ite (!decide (p.11 = (0 : Int))) (.leaf (Value.bool true)) (.ite (!Head.bears p.1) (.leaf (Value.bool !decide (p.12 = ByteArray.mk (Array.mk [])))) (.leaf (Value.bool false))))) (.ite (!Head.bears p.1) (.leaf (Value.bool !decide (p.12 = ByteArray.mk (Array.mk [])))) (.leaf (Value.bool false))))) (.ite (!decide (p.1 = (7 : Int))) (.ite (!decide (p.10 = (0 : Int))) (.leaf (Value.bool true)) (.ite (!decide (p.11 = (0 : Int))) (.leaf (Value.bool true)) (.ite (!Head.bears p.1) (.leaf (Value.bool !decide (p.12 = ByteArray.mk (Array.mk [])))) (.leaf (Value.bool false))))) (.ite (!Head.bears p.1) (.leaf (Value.bool !decide (p.12 = ByteArray.mk (Array.mk [])))) (.leaf (Value.bool false))))) := by kernel_rfl
set_option maxRecDepth 100000 in
theorem pspareR_run (p : Pk) (n : Nat) (f : Nat → Nat → Value) : runO Tryz.prog (CP0 Tryz.prog) noL Tryz.f53 [p.s (.ref 0)] [.row n 2 f] = .ite (!Head.acks p.1) (.ite (!decide (p.8 = (0 : Int))) (.leaf (Value.bool true)) (.ite (decide (p.1 > (1 : Int))) (.ite (!decide (p.9 = (0 : Int))) (.leaf (Value.bool true)) (.ite (!decide (p.1 = (7 : Int))) (.ite (!decide (p.10 = (0 : Int))) (.leaf (Value.bool true)) (.ite (!decide (p.11 = (0 : Int))) (.leaf (Value.bool true)) (.ite (!Head.bears p.1) (.leaf (Value.bool !decide (p.12 = ByteArray.mk (Array.mk [])))) (.leaf (Value.bool false))))) (.ite (!Head.bears p.1) (.leaf (Value.bool !decide (p.12 = ByteArray.mk (Array.mk [])))) (.leaf (Value.bool false))))) (.ite (!decide (p.1 = (7 : Int))) (.ite (!decide (p.10 = (0 : Int))) (.leaf (Value.bool true)) (.ite (!decide (p.11 = (0 : Int))) (.leaf (Value.bool true)) (.ite (!Head.bears p.1) (.leaf (Value.bool !decide (p.12 = ByteArray.mk (Array.mk [])))) (.leaf (Value.bool false))))) (.ite (!Head.bears p.1) (.leaf (Value.bool !decide (p.12 = ByteArray.mk (Array.mk [])))) (.leaf (Value.bool false)))))) (.ite (decide (p.1 > (1 : Int))) (.ite (!decide (p.9 = (0 : Int))) (.leaf (Value.bool true)) (.ite (!decide (p.1 = (7 : Int))) (.ite (!decide (p.10 = (0 : Int))) (.leaf (Value.bool true)) (.ite (!decide (p.11 = (0 : Int))) (.leaf (Value.bool true)) (.ite (!Head.bears p.1) (.leaf (Value.bool !decide (p.12 = ByteArray.mk (Array.mk [])))) (.leaf (Value.bool false))))) (.ite (!Head.bears p.1) (.leaf (Value.bool !decide (p.12 = ByteArray.mk (Array.mk [])))) (.leaf (Value.bool false))))) (.ite (!decide (p.1 = (7 : Int))) (.ite (!decide (p.10 = (0 : Int))) (.leaf (Value.bool true)) (.ite (!decide (p.11 = (0 : Int))) (.leaf (Value.bool true)) (.ite (!Head.bears p.1) (.leaf (Value.bool !decide (p.12 = ByteArray.mk (Array.mk [])))) (.leaf (Value.bool false))))) (.ite (!Head.bears p.1) (.leaf (Value.bool !decide (p.12 = ByteArray.mk (Array.mk [])))) (.leaf (Value.bool false))))) := by kernel_rfl
set_option maxRecDepth 100000 in
theorem pbegin_run (p : Pk) (n : Nat) (f : Nat → Nat → Value) : runO Tryz.prog (CP0 Tryz.prog) noL Tryz.f85 [p.s (.ref 0)] [.row n 2 f] = .need (OpP n f) (.leaf (Value.agg (Array.mk [Value.int IntKind.i64 p.3, Value.int IntKind.i64 p.4, Value.int IntKind.i64 (if (255 : Int) < IntKind.i64.wrap ((IntKind.i64.wrap (IntKind.i64.wrap (IntKind.i64.wrap (Head.size p.1 p.2 + sizeL (opF f) n) + (4 : Int)) - (1 : Int))).tdiv (4 : Int)) then (255 : Int) else IntKind.i64.wrap ((IntKind.i64.wrap (IntKind.i64.wrap (IntKind.i64.wrap (Head.size p.1 p.2 + sizeL (opF f) n) + (4 : Int)) - (1 : Int))).tdiv (4 : Int))), Value.int IntKind.i64 p.5, Value.int IntKind.i64 p.6, Value.int IntKind.i64 0, Value.int IntKind.i64 p.1, Value.bool p.2, Value.int IntKind.i64 p.7]))) := by kernel_rfl
end Go.Proofs.YtopeaafcepgnhaaGreat
namespace Go.Proofs.YtopeaafcepgnhaaGreat
open Go.RowKit Sym Go.ChangeShapes Go.WideShapes Go.ChangeMaps Inet
theorem mk_nil_iff (s : ByteArray) : (s = ByteArray.mk (Array.mk [])) = (s.size = 0) := propext (ba_empty s)
theorem packet_numbered (p : Pk) (n : Nat) (f : Nat → Nat → Value) (o : Value) (w : World) (hv : ∀ B, BlkSat B w o (.row n 2 f)) : Calls Tryz.prog 86 #[p.v o] w fun e w' => e = .returned (.bool (numP p)) ∧ Below w.heap.size w w' := by
  refine calls_runO CP0_ok follows Tryz.func86 (by kernel_rfl) (by kernel_rfl) (noloops (by kernel_rfl)) (pnum_run p n f) ?_ (mem_row (hv [o])) rfl
  unfold numP Head.most
  simp only [T.ok, Value.bool.injEq]
  generalize Head.acks p.kind = a
  generalize served p.kind = s
  generalize decide (p.kind = 7) = k
  generalize wn p.service 4294967296 = x
  generalize wn p.code 256 = y
  generalize wn p.detail 16777216 = z
  generalize p.long = l
  have e : wn p.ack (if l = true then 281474976710656 else 16777216) = bif l then wn p.ack 281474976710656 else wn p.ack 16777216 := by cases l <;> rfl
  rw [e]
  generalize wn p.ack 16777216 = b
  generalize wn p.ack 281474976710656 = c
  clear e
  cases a <;> cases s <;> cases k <;> cases l <;> (simp only [Bool.not_true, Bool.not_false, Bool.false_eq_true, Bool.true_eq_false, false_implies, true_implies, and_true, true_and, cond_true, cond_false]; revert x y z b c; decide)
theorem packet_spare (p : Pk) (n : Nat) (f : Nat → Nat → Value) (o : Value) (w : World) (hv : ∀ B, BlkSat B w o (.row n 2 f)) : Calls Tryz.prog 88 #[p.v o] w fun e w' => e = .returned (.bool (spareP p)) ∧ Below w.heap.size w w' := by
  refine calls_runO CP0_ok follows Tryz.func88 (by kernel_rfl) (by kernel_rfl) (noloops (by kernel_rfl)) (pspare_run p n f) ?_ (mem_row (hv [o])) rfl
  unfold spareP
  simp only [mk_nil_iff, T.ok, Value.bool.injEq]
  generalize Head.acks p.kind = a
  generalize Head.bears p.kind = b
  generalize served p.kind = s
  generalize decide (p.kind = 7) = k
  generalize decide (p.ack = 0) = x
  generalize decide (p.service = 0) = y
  generalize decide (p.code = 0) = z
  generalize decide (p.detail = 0) = u
  generalize decide (p.data.size = 0) = v
  cases a <;> cases b <;> cases s <;> cases k <;> (simp only [Bool.not_true, Bool.not_false, Bool.false_eq_true, Bool.true_eq_false, false_implies, true_implies, and_true, true_and]; revert x y z u v; decide)
theorem ref10_spare (p : Pk) (h0 : 0 ≤ p.kind) (n : Nat) (f : Nat → Nat → Value) (o : Value) (w : World) (hv : ∀ B, BlkSat B w o (.row n 2 f)) : Calls Tryz.prog 53 #[p.v o] w fun e w' => e = .returned (.bool (spareP p)) ∧ Below w.heap.size w w' := by
  refine calls_runO CP0_ok follows Tryz.func53 (by kernel_rfl) (by kernel_rfl) (noloops (by kernel_rfl)) (pspareR_run p n f) ?_ (mem_row (hv [o])) rfl
  have e : served p.kind = !decide (p.kind > 1) := by
    unfold served
    by_cases h : p.kind > 1
    · simp [h]; omega
    · simp [h]; omega
  unfold spareP
  rw [e]
  simp only [mk_nil_iff, T.ok, Value.bool.injEq]
  generalize Head.acks p.kind = a
  generalize Head.bears p.kind = b
  generalize decide (p.kind > 1) = s
  generalize decide (p.kind = 7) = k
  generalize decide (p.ack = 0) = x
  generalize decide (p.service = 0) = y
  generalize decide (p.code = 0) = z
  generalize decide (p.detail = 0) = u
  generalize decide (p.data.size = 0) = v
  cases a <;> cases b <;> cases s <;> cases k <;> (simp only [Bool.not_true, Bool.not_false, Bool.false_eq_true, Bool.true_eq_false, false_implies, true_implies, and_true, true_and]; revert x y z u v; decide)
theorem packet_beginning (p : Pk) (n : Nat) (f : Nat → Nat → Value) (ho : OpP n f) (o : Value) (w : World) (hv : ∀ B, BlkSat B w o (.row n 2 f)) : Calls Tryz.prog 85 #[p.v o] w fun e w' => e = .returned (begH p n (opF f) 0).v ∧ Below w.heap.size w w' := by
  refine calls_runO CP0_ok follows Tryz.func85 (by kernel_rfl) (by kernel_rfl) (noloops (by kernel_rfl)) (pbegin_run p n f) ?_ (mem_row (hv [o])) rfl
  refine ⟨ho, ?_⟩
  obtain ⟨-, f1, f2⟩ := ho
  have hb := sizeL_bd (opF f) n (fun j hj => f2 j hj)
  have hs : 0 ≤ Head.size p.kind p.long ∧ Head.size p.kind p.long ≤ 100 := by unfold Head.size; split <;> (try split) <;> (try split) <;> (try split) <;> omega
  have e1 : IntKind.i64.wrap (Head.size p.kind p.long + sizeL (opF f) n) = Head.size p.kind p.long + sizeL (opF f) n := w64 _ (by omega) (by omega)
  have e2 : IntKind.i64.wrap (Head.size p.kind p.long + sizeL (opF f) n + 4) = Head.size p.kind p.long + sizeL (opF f) n + 4 := w64 _ (by omega) (by omega)
  have e3 : IntKind.i64.wrap (Head.size p.kind p.long + sizeL (opF f) n + 4 - 1) = Head.size p.kind p.long + sizeL (opF f) n + 3 := by rw [w64 _ (by omega) (by omega)]; omega
  have e4 : (Head.size p.kind p.long + sizeL (opF f) n + 3).tdiv 4 = (Head.size p.kind p.long + sizeL (opF f) n + 3) / 4 := Int.tdiv_eq_ediv_of_nonneg (by omega)
  have e5 : IntKind.i64.wrap ((Head.size p.kind p.long + sizeL (opF f) n + 3) / 4) = (Head.size p.kind p.long + sizeL (opF f) n + 3) / 4 := w64 _ (by omega) (by omega)
  rw [e1, e2, e3, e4, e5]
  have e6 : (if (255 : Int) < (Head.size p.kind p.long + sizeL (opF f) n + 3) / 4 then (255 : Int) else (Head.size p.kind p.long + sizeL (opF f) n + 3) / 4) = wordsP p n (opF f) := by
    unfold wordsP; split <;> omega
  rw [e6]
  rfl
end Go.Proofs.YtopeaafcepgnhaaGreat
namespace Go.Proofs.YtopeaafcepgnhaaGreat
open Go.RowKit Sym Go.ChangeShapes Go.WideShapes Go.ChangeMaps Inet
set_option maxRecDepth 100000 in
theorem rbegin_run (p : Pk) (n : Nat) (f : Nat → Nat → Value) : runO Tryz.prog (CP0 Tryz.prog) (LUn Tryz.prog (onlyS Tryz.prog noS) Tryz.f49 5) Tryz.f49 [p.s (.ref 0)] [.row n 2 f] = .need (OpP n f) (.ite (!decide ((IntKind.i64.wrap (Head.size p.1 p.2 + sizeL (opF f) n)).tmod (4 : Int) = (0 : Int))) (.ite (!decide ((IntKind.i64.wrap (IntKind.i64.wrap (Head.size p.1 p.2 + sizeL (opF f) n) + (1 : Int))).tmod (4 : Int) = (0 : Int))) (.ite (!decide ((IntKind.i64.wrap (IntKind.i64.wrap (IntKind.i64.wrap (Head.size p.1 p.2 + sizeL (opF f) n) + (1 : Int)) + (1 : Int))).tmod (4 : Int) = (0 : Int))) (.ite (!decide ((IntKind.i64.wrap (IntKind.i64.wrap (IntKind.i64.wrap (IntKind.i64.wrap (Head.size p.1 p.2 + sizeL (opF f) n) + (1 : Int)) + (1 : Int)) + (1 : Int))).tmod (4 : Int) = (0 : Int))) (.ite (!decide ((IntKind.i64.wrap (IntKind.i64.wrap (IntKind.i64.wrap (IntKind.i64.wrap (IntKind.i64.wrap (Head.size p.1 p.2 + sizeL (opF f) n) + (1 : Int)) + (1 : Int)) + (1 : Int)) + (1 : Int))).tmod (4 : Int) = (0 : Int))) (T.stuck 38) (.leaf (Value.agg (Array.mk [Value.int IntKind.i64 p.3, Value.int IntKind.i64 p.4, Value.int IntKind.i64 (if (255 : Int) < IntKind.i64.wrap ((IntKind.i64.wrap (IntKind.i64.wrap (IntKind.i64.wrap (IntKind.i64.wrap (IntKind.i64.wrap (Head.size p.1 p.2 + sizeL (opF f) n) + (1 : Int)) + (1 : Int)) + (1 : Int)) + (1 : Int))).tdiv (4 : Int)) then (255 : Int) else IntKind.i64.wrap ((IntKind.i64.wrap (IntKind.i64.wrap (IntKind.i64.wrap (IntKind.i64.wrap (IntKind.i64.wrap (Head.size p.1 p.2 + sizeL (opF f) n) + (1 : Int)) + (1 : Int)) + (1 : Int)) + (1 : Int))).tdiv (4 : Int))), Value.int IntKind.i64 p.5, Value.int IntKind.i64 p.6, Value.int IntKind.i64 0, Value.int IntKind.i64 p.1, Value.bool p.2, Value.int IntKind.i64 p.7])))) (.leaf (Value.agg (Array.mk [Value.int IntKind.i64 p.3, Value.int IntKind.i64 p.4, Value.int IntKind.i64 (if (255 : Int) < IntKind.i64.wrap ((IntKind.i64.wrap (IntKind.i64.wrap (IntKind.i64.wrap (IntKind.i64.wrap (Head.size p.1 p.2 + sizeL (opF f) n) + (1 : Int)) + (1 : Int)) + (1 : Int))).tdiv (4 : Int)) then (255 : Int) else IntKind.i64.wrap ((IntKind.i64.wrap (IntKind.i64.wrap (IntKind.i64.wrap (IntKind.i64.wrap (Head.size p.1 p.2 + sizeL (opF f) n) + (1 : Int)) + (1 : Int)) + (1 : Int))).tdiv (4 : Int))), Value.int IntKind.i64 p.5, Value.int IntKind.i64 p.6, Value.int IntKind.i64 0, Value.int IntKind.i64 p.1, Value.bool p.2, Value.int IntKind.i64 p.7])))) (.leaf (Value.agg (Array.mk [Value.int IntKind.i64 p.3, Value.int IntKind.i64 p.4, Value.int IntKind.i64 (if (255 : Int) < IntKind.i64.wrap ((IntKind.i64.wrap (IntKind.i64.wrap (IntKind.i64.wrap (Head.size p.1 p.2 + sizeL (opF f) n) + (1 : Int)) + (1 : Int))).tdiv (4 : Int)) then (255 : Int) else IntKind.i64.wrap ((IntKind.i64.wrap (IntKind.i64.wrap (IntKind.i64.wrap (Head.size p.1 p.2 + sizeL (opF f) n) + (1 : Int)) + (1 : Int))).tdiv (4 : Int))), Value.int IntKind.i64 p.5, Value.int IntKind.i64 p.6, Value.int IntKind.i64 0, Value.int IntKind.i64 p.1, Value.bool p.2, Value.int IntKind.i64 p.7])))) (.leaf (Value.agg (Array.mk [Value.int IntKind.i64 p.3, Value.int IntKind.i64 p.4, Value.int IntKind.i64 (if (255 : Int) < IntKind.i64.wrap ((IntKind.i64.wrap (IntKind.i64.wrap (Head.size p.1 p.2 + sizeL (opF f) n) + (1 : Int))).tdiv (4 : Int)) then (255 : Int) else IntKind.i64.wrap ((IntKind.i64.wrap (IntKind.i64.wrap (Head.size p.1 p.2 + sizeL (opF f) n) + (1 : Int))).tdiv (4 : Int))), Value.int IntKind.i64 p.5, Value.int IntKind.i64 p.6, Value.int IntKind.i64 0, Value.int IntKind.i64 p.1, Value.bool p.2, Value.int IntKind.i64 p.7])))) (.leaf (Value.agg (Array.mk [Value.int IntKind.i64 p.3, Value.int IntKind.i64 p.4, Value.int IntKind.i64 (if (255 : Int) < IntKind.i64.wrap ((IntKind.i64.wrap (Head.size p.1 p.2 + sizeL (opF f) n)).tdiv (4 : Int)) then (255 : Int) else IntKind.i64.wrap ((IntKind.i64.wrap (Head.size p.1 p.2 + sizeL (opF f) n)).tdiv (4 : Int))), Value.int IntKind.i64 p.5, Value.int IntKind.i64 p.6, Value.int IntKind.i64 0, Value.int IntKind.i64 p.1, Value.bool p.2, Value.int IntKind.i64 p.7])))) := by kernel_rfl
theorem ref10_begin (p : Pk) (n : Nat) (f : Nat → Nat → Value) (ho : OpP n f) (o : Value) (w : World) (hv : ∀ B, BlkSat B w o (.row n 2 f)) : Calls Tryz.prog 49 #[p.v o] w fun e w' => e = .returned (begH p n (opF f) 0).v ∧ Below w.heap.size w w' := by
  refine calls_runO CP0_ok follows Tryz.func49 (by kernel_rfl) (by kernel_rfl) (one_loop (by kernel_rfl) fun st t h => by
    rw [addL_same h]; exact unroll_ok (onlyS_ok noS_ok) follows (by kernel_rfl) (noloops (by kernel_rfl)) 5 st) (rbegin_run p n f) ?_ (mem_row (hv [o])) rfl
  refine ⟨ho, ?_⟩
  obtain ⟨-, f1, f2⟩ := ho
  have hb := sizeL_bd (opF f) n (fun j hj => f2 j hj)
  have hs : 0 ≤ Head.size p.kind p.long ∧ Head.size p.kind p.long ≤ 100 := by unfold Head.size; split <;> (try split) <;> (try split) <;> (try split) <;> omega
  have fin : ∀ k : Int, (if (255 : Int) < k then (255 : Int) else k) = min k 255 := fun k => by split <;> omega
  have ew : wordsP p n (opF f) = min ((Head.size p.kind p.long + sizeL (opF f) n + 3) / 4) 255 := rfl
  unfold begH
  rw [ew]
  have ht : 0 ≤ Head.size p.kind p.long + sizeL (opF f) n ∧ Head.size p.kind p.long + sizeL (opF f) n ≤ 2000000000 := by omega
  generalize Head.size p.kind p.long + sizeL (opF f) n = t at *
  have w0 : IntKind.i64.wrap t = t := w64 _ (by omega) (by omega)
  have w1 : IntKind.i64.wrap (t + 1) = t + 1 := w64 _ (by omega) (by omega)
  have w2 : IntKind.i64.wrap (t + 1 + 1) = t + 1 + 1 := w64 _ (by omega) (by omega)
  have w3 : IntKind.i64.wrap (t + 1 + 1 + 1) = t + 1 + 1 + 1 := w64 _ (by omega) (by omega)
  have w4 : IntKind.i64.wrap (t + 1 + 1 + 1 + 1) = t + 1 + 1 + 1 + 1 := w64 _ (by omega) (by omega)
  simp only [w0, w1, w2, w3, w4]
  have md : ∀ x : Int, 0 ≤ x → x.tmod 4 = x % 4 := fun x hx => Int.tmod_eq_emod_of_nonneg hx
  have dv : ∀ x : Int, 0 ≤ x → x ≤ 3000000000 → IntKind.i64.wrap (x.tdiv 4) = x / 4 := fun x hx h2 => by rw [Int.tdiv_eq_ediv_of_nonneg hx, w64 _ (by omega) (by omega)]
  simp only [md t (by omega), md (t + 1) (by omega), md (t + 1 + 1) (by omega), md (t + 1 + 1 + 1) (by omega), md (t + 1 + 1 + 1 + 1) (by omega), dv t (by omega) (by omega), dv (t + 1) (by omega) (by omega), dv (t + 1 + 1) (by omega) (by omega), dv (t + 1 + 1 + 1) (by omega) (by omega), dv (t + 1 + 1 + 1 + 1) (by omega) (by omega), fin]
  have h4 : t % 4 = 0 ∨ t % 4 = 1 ∨ t % 4 = 2 ∨ t % 4 = 3 := by omega
  rcases h4 with h | h | h | h
  · have e : min (t / 4) 255 = min ((t + 3) / 4) 255 := by omega
    simp [T.ok, h, e]
  · have a1 : (t + 1) % 4 = 2 := by omega
    have a2 : (t + 1 + 1) % 4 = 3 := by omega
    have a3 : (t + 1 + 1 + 1) % 4 = 0 := by omega
    have e : (t + 1 + 1 + 1) / 4 = (t + 3) / 4 := by omega
    simp [T.ok, h, a1, a2, a3, e]
  · have a1 : (t + 1) % 4 = 3 := by omega
    have a2 : (t + 1 + 1) % 4 = 0 := by omega
    have e : (t + 1 + 1) / 4 = (t + 3) / 4 := by omega
    simp [T.ok, h, a1, a2, e]
  · have a1 : (t + 1) % 4 = 0 := by omega
    have e : (t + 1) / 4 = (t + 3) / 4 := by omega
    simp [T.ok, h, a1, e]
def begP (p : Pk) (n : Nat) (f : Nat → Nat → Value) : Value := .agg #[.int .i64 p.src, .int .i64 p.dst, .int .i64 (wordsP p n (opF f)), .int .i64 p.ccval, .int .i64 p.cover, .int .i64 0, .int .i64 p.kind, .bool p.long, .int .i64 p.seq]
def KindP (p : Pk) : Prop := 0 ≤ p.kind
def FPk1 : LTab := addR 85 (rdP (fun _ n f => OpP n f) begP) <| addR 49 (rdP (fun _ n f => OpP n f) begP) <| addR 86 (rdP (fun _ _ _ => True) fun p _ _ => .bool (numP p)) <| addR 88 (rdP (fun _ _ _ => True) fun p _ _ => .bool (spareP p)) <| addR 53 (rdP (fun p _ _ => KindP p) fun p _ _ => .bool (spareP p)) FOpt2
theorem FPk1_ok : LOk Tryz.prog FPk1 :=
  addR_ok (addR_ok (addR_ok (addR_ok (addR_ok FOpt2_ok
    (by kernel_rfl) (rdP_ok fun p n fr o w hv hp => ref10_spare p hp n fr o w hv))
    (by kernel_rfl) (rdP_ok fun p n fr o w hv _ => packet_spare p n fr o w hv))
    (by kernel_rfl) (rdP_ok fun p n fr o w hv _ => packet_numbered p n fr o w hv))
    (by kernel_rfl) (rdP_ok fun p n fr o w hv hp => ref10_begin p n fr hp o w hv))
    (by kernel_rfl) (rdP_ok fun p n fr o w hv hp => packet_beginning p n fr hp o w hv)
abbrev fsPk1 : List Nat := 85 :: 49 :: 86 :: 88 :: 53 :: fsOpt
abbrev CP1 (P : Program) : Cfg := both P SPk0 FPk1 fsPk1
theorem CP1_ok : CfgOk Tryz.prog (CP1 Tryz.prog) := both_ok SPk0_ok FPk1_ok
set_option maxRecDepth 100000 in
theorem pcheck_run (p : Pk) (n : Nat) (f : Nat → Nat → Value) : runO Tryz.prog (CP1 Tryz.prog) noL Tryz.f60 [p.s (.ref 0)] [.row n 2 f] = .need (OpP n ((Pk.mk p.kind p.long p.src p.dst p.ccval p.cover p.seq p.ack p.service p.code p.detail p.data, openS (SV.ref 0)).fst, (n, f).fst, (n, f).snd).snd.snd) (.ite (!decide (Head.check (Head.H.mk p.3 p.4 (wordsP p n (opF ((Pk.mk p.kind p.long p.src p.dst p.ccval p.cover p.seq p.ack p.service p.code p.detail p.data, openS (SV.ref 0)).fst, (n, f).fst, (n, f).snd).snd.snd)) p.5 p.6 (0 : Int) p.1 p.2 p.7) = (0 : Int))) (.leaf (Value.int IntKind.i64 (Head.check (Head.H.mk p.3 p.4 (wordsP p n (opF ((Pk.mk p.kind p.long p.src p.dst p.ccval p.cover p.seq p.ack p.service p.code p.detail p.data, openS (SV.ref 0)).fst, (n, f).fst, (n, f).snd).snd.snd)) p.5 p.6 (0 : Int) p.1 p.2 p.7)))) (.need True (.ite (!numP p) (.leaf (Value.int IntKind.i64 3)) (.need (OpP n f) (.ite (!decide (chkO n (opF f) = (0 : Int))) (.leaf (Value.int IntKind.i64 (chkO n (opF f)))) (.need ((ByteArray.mk #[]).size ≤ 1000000 ∧ p.data.size ≤ 1000000) (.ite (decide ((↑p.12.size : Int) > (200 : Int))) (.leaf (Value.int IntKind.i64 11)) (.need True (.ite (spareP p) (.leaf (Value.int IntKind.i64 4)) (.ite (!covOk p.12 p.6) (.leaf (Value.int IntKind.i64 3)) (.leaf (Value.int IntKind.i64 0)))))))))))) := by kernel_rfl
set_option maxRecDepth 100000 in
theorem rcheck_run (p : Pk) (n : Nat) (f : Nat → Nat → Value) : runO Tryz.prog (CP1 Tryz.prog) noL Tryz.f21 [p.s (.ref 0)] [.row n 2 f] = .need (OpP n ((Pk.mk p.kind p.long p.src p.dst p.ccval p.cover p.seq p.ack p.service p.code p.detail p.data, openS (SV.ref 0)).fst, (n, f).fst, (n, f).snd).snd.snd) (.ite (!decide (Head.check (Head.H.mk p.3 p.4 (wordsP p n (opF ((Pk.mk p.kind p.long p.src p.dst p.ccval p.cover p.seq p.ack p.service p.code p.detail p.data, openS (SV.ref 0)).fst, (n, f).fst, (n, f).snd).snd.snd)) p.5 p.6 (0 : Int) p.1 p.2 p.7) = (0 : Int))) (.leaf (Value.int IntKind.i64 (Head.check (Head.H.mk p.3 p.4 (wordsP p n (opF ((Pk.mk p.kind p.long p.src p.dst p.ccval p.cover p.seq p.ack p.service p.code p.detail p.data, openS (SV.ref 0)).fst, (n, f).fst, (n, f).snd).snd.snd)) p.5 p.6 (0 : Int) p.1 p.2 p.7)))) (.ite (Head.acks p.1) (.ite p.2 (.ite (!wn p.8 (281474976710656 : Int)) (.leaf (Value.int IntKind.i64 3)) (.ite (!p.2) (.ite (!wn p.8 (16777216 : Int)) (.leaf (Value.int IntKind.i64 3)) (.ite (decide (p.1 < (2 : Int))) (.ite (!wn p.9 (4294967296 : Int)) (.leaf (Value.int IntKind.i64 3)) (.ite (decide (p.1 = (7 : Int))) (.ite (!wn p.10 (256 : Int)) (.leaf (Value.int IntKind.i64 3)) (.ite (!wn p.11 (16777216 : Int)) (.leaf (Value.int IntKind.i64 3)) (.need (OpP n f) (.ite (!decide (chkO n (opF f) = (0 : Int))) (.leaf (Value.int IntKind.i64 (chkO n (opF f)))) (.need ((ByteArray.mk #[]).size ≤ 1000000 ∧ p.data.size ≤ 1000000) (.ite (decide ((↑p.12.size : Int) > (200 : Int))) (.leaf (Value.int IntKind.i64 11)) (.need (KindP p) (.ite (spareP p) (.leaf (Value.int IntKind.i64 4)) (.ite (!covOk p.12 p.6) (.leaf (Value.int IntKind.i64 3)) (.leaf (Value.int IntKind.i64 0))))))))))) (.need (OpP n f) (.ite (!decide (chkO n (opF f) = (0 : Int))) (.leaf (Value.int IntKind.i64 (chkO n (opF f)))) (.need ((ByteArray.mk #[]).size ≤ 1000000 ∧ p.data.size ≤ 1000000) (.ite (decide ((↑p.12.size : Int) > (200 : Int))) (.leaf (Value.int IntKind.i64 11)) (.need (KindP p) (.ite (spareP p) (.leaf (Value.int IntKind.i64 4)) (.ite (!covOk p.12 p.6) (.leaf (Value.int IntKind.i64 3)) (.leaf (Value.int IntKind.i64 0))))))))))) (.ite (decide (p.1 = (7 : Int))) (.ite (!wn p.10 (256 : Int)) (.leaf (Value.int IntKind.i64 3)) (.ite (!wn p.11 (16777216 : Int)) (.leaf (Value.int IntKind.i64 3)) (.need (OpP n f) (.ite (!decide (chkO n (opF f) = (0 : Int))) (.leaf (Value.int IntKind.i64 (chkO n (opF f)))) (.need ((ByteArray.mk #[]).size ≤ 1000000 ∧ p.data.size ≤ 1000000) (.ite (decide ((↑p.12.size : Int) > (200 : Int))) (.leaf (Value.int IntKind.i64 11)) (.need (KindP p) (.ite (spareP p) (.leaf (Value.int IntKind.i64 4)) (.ite (!covOk p.12 p.6) (.leaf (Value.int IntKind.i64 3)) (.leaf (Value.int IntKind.i64 0))))))))))) (.need (OpP n f) (.ite (!decide (chkO n (opF f) = (0 : Int))) (.leaf (Value.int IntKind.i64 (chkO n (opF f)))) (.need ((ByteArray.mk #[]).size ≤ 1000000 ∧ p.data.size ≤ 1000000) (.ite (decide ((↑p.12.size : Int) > (200 : Int))) (.leaf (Value.int IntKind.i64 11)) (.need (KindP p) (.ite (spareP p) (.leaf (Value.int IntKind.i64 4)) (.ite (!covOk p.12 p.6) (.leaf (Value.int IntKind.i64 3)) (.leaf (Value.int IntKind.i64 0)))))))))))) (.ite (decide (p.1 < (2 : Int))) (.ite (!wn p.9 (4294967296 : Int)) (.leaf (Value.int IntKind.i64 3)) (.ite (decide (p.1 = (7 : Int))) (.ite (!wn p.10 (256 : Int)) (.leaf (Value.int IntKind.i64 3)) (.ite (!wn p.11 (16777216 : Int)) (.leaf (Value.int IntKind.i64 3)) (.need (OpP n f) (.ite (!decide (chkO n (opF f) = (0 : Int))) (.leaf (Value.int IntKind.i64 (chkO n (opF f)))) (.need ((ByteArray.mk #[]).size ≤ 1000000 ∧ p.data.size ≤ 1000000) (.ite (decide ((↑p.12.size : Int) > (200 : Int))) (.leaf (Value.int IntKind.i64 11)) (.need (KindP p) (.ite (spareP p) (.leaf (Value.int IntKind.i64 4)) (.ite (!covOk p.12 p.6) (.leaf (Value.int IntKind.i64 3)) (.leaf (Value.int IntKind.i64 0))))))))))) (.need (OpP n f) (.ite (!decide (chkO n (opF f) = (0 : Int))) (.leaf (Value.int IntKind.i64 (chkO n (opF f)))) (.need ((ByteArray.mk #[]).size ≤ 1000000 ∧ p.data.size ≤ 1000000) (.ite (decide ((↑p.12.size : Int) > (200 : Int))) (.leaf (Value.int IntKind.i64 11)) (.need (KindP p) (.ite (spareP p) (.leaf (Value.int IntKind.i64 4)) (.ite (!covOk p.12 p.6) (.leaf (Value.int IntKind.i64 3)) (.leaf (Value.int IntKind.i64 0))))))))))) (.ite (decide (p.1 = (7 : Int))) (.ite (!wn p.10 (256 : Int)) (.leaf (Value.int IntKind.i64 3)) (.ite (!wn p.11 (16777216 : Int)) (.leaf (Value.int IntKind.i64 3)) (.need (OpP n f) (.ite (!decide (chkO n (opF f) = (0 : Int))) (.leaf (Value.int IntKind.i64 (chkO n (opF f)))) (.need ((ByteArray.mk #[]).size ≤ 1000000 ∧ p.data.size ≤ 1000000) (.ite (decide ((↑p.12.size : Int) > (200 : Int))) (.leaf (Value.int IntKind.i64 11)) (.need (KindP p) (.ite (spareP p) (.leaf (Value.int IntKind.i64 4)) (.ite (!covOk p.12 p.6) (.leaf (Value.int IntKind.i64 3)) (.leaf (Value.int IntKind.i64 0))))))))))) (.need (OpP n f) (.ite (!decide (chkO n (opF f) = (0 : Int))) (.leaf (Value.int IntKind.i64 (chkO n (opF f)))) (.need ((ByteArray.mk #[]).size ≤ 1000000 ∧ p.data.size ≤ 1000000) (.ite (decide ((↑p.12.size : Int) > (200 : Int))) (.leaf (Value.int IntKind.i64 11)) (.need (KindP p) (.ite (spareP p) (.leaf (Value.int IntKind.i64 4)) (.ite (!covOk p.12 p.6) (.leaf (Value.int IntKind.i64 3)) (.leaf (Value.int IntKind.i64 0))))))))))))) (.ite (!p.2) (.ite (!wn p.8 (16777216 : Int)) (.leaf (Value.int IntKind.i64 3)) (.ite (decide (p.1 < (2 : Int))) (.ite (!wn p.9 (4294967296 : Int)) (.leaf (Value.int IntKind.i64 3)) (.ite (decide (p.1 = (7 : Int))) (.ite (!wn p.10 (256 : Int)) (.leaf (Value.int IntKind.i64 3)) (.ite (!wn p.11 (16777216 : Int)) (.leaf (Value.int IntKind.i64 3)) (.need (OpP n f) (.ite (!decide (chkO n (opF f) = (0 : Int))) (.leaf (Value.int IntKind.i64 (chkO n (opF f)))) (.need ((ByteArray.mk #[]).size ≤ 1000000 ∧ p.data.size ≤ 1000000) (.ite (decide ((↑p.12.size : Int) > (200 : Int))) (.leaf (Value.int IntKind.i64 11)) (.need (KindP p) (.ite (spareP p) (.leaf (Value.int IntKind.i64 4)) (.ite (!covOk p.12 p.6) (.leaf (Value.int IntKind.i64 3)) (.leaf (Value.int IntKind.i64 0))))))))))) (.need (OpP n f) (.ite (!decide (chkO n (opF f) = (0 : Int))) (.leaf (Value.int IntKind.i64 (chkO n (opF f)))) (.need ((ByteArray.mk #[]).size ≤ 1000000 ∧ p.data.size ≤ 1000000) (.ite (decide ((↑p.12.size : Int) > (200 : Int))) (.leaf (Value.int IntKind.i64 11)) (.need (KindP p) (.ite (spareP p) (.leaf (Value.int IntKind.i64 4)) (.ite (!covOk p.12 p.6) (.leaf (Value.int IntKind.i64 3)) (.leaf (Value.int IntKind.i64 0))))))))))) (.ite (decide (p.1 = (7 : Int))) (.ite (!wn p.10 (256 : Int)) (.leaf (Value.int IntKind.i64 3)) (.ite (!wn p.11 (16777216 : Int)) (.leaf (Value.int IntKind.i64 3)) (.need (OpP n f) (.ite (!decide (chkO n (opF f) = (0 : Int))) (.leaf (Value.int IntKind.i64 (chkO n (opF f)))) (.need ((ByteArray.mk #[]).size ≤ 1000000 ∧ p.data.size ≤ 1000000) (.ite (decide ((↑p.12.size : Int) > (200 : Int))) (.leaf (Value.int IntKind.i64 11)) (.need (KindP p) (.ite (spareP p) (.leaf (Value.int IntKind.i64 4)) (.ite (!covOk p.12 p.6) (.leaf (Value.int IntKind.i64 3)) (.leaf (Value.int IntKind.i64 0))))))))))) (.need (OpP n f) (.ite (!decide (chkO n (opF f) = (0 : Int))) (.leaf (Value.int IntKind.i64 (chkO n (opF f)))) (.need ((ByteArray.mk #[]).size ≤ 1000000 ∧ p.data.size ≤ 1000000) (.ite (decide ((↑p.12.size : Int) > (200 : Int))) (.leaf (Value.int IntKind.i64 11)) (.need (KindP p) (.ite (spareP p) (.leaf (Value.int IntKind.i64 4)) (.ite (!covOk p.12 p.6) (.leaf (Value.int IntKind.i64 3)) (.leaf (Value.int IntKind.i64 0)))))))))))) (.ite (decide (p.1 < (2 : Int))) (.ite (!wn p.9 (4294967296 : Int)) (.leaf (Value.int IntKind.i64 3)) (.ite (decide (p.1 = (7 : Int))) (.ite (!wn p.10 (256 : Int)) (.leaf (Value.int IntKind.i64 3)) (.ite (!wn p.11 (16777216 : Int)) (.leaf (Value.int IntKind.i64 3)) (.need (OpP n f) (.ite (!decide (chkO n (opF f) = (0 : Int))) (.leaf (Value.int IntKind.i64 (chkO n (opF f)))) (.need ((ByteArray.mk #[]).size ≤ 1000000 ∧ p.data.size ≤ 1000000) (.ite (decide ((↑p.12.size : Int) > (200 : Int))) (.leaf (Value.int IntKind.i64 11)) (.need (KindP p) (.ite (spareP p) (.leaf (Value.int IntKind.i64 4)) (.ite (!covOk p.12 p.6) (.leaf (Value.int IntKind.i64 3)) (.leaf (Value.int IntKind.i64 0))))))))))) (.need (OpP n f) (.ite (!decide (chkO n (opF f) = (0 : Int))) (.leaf (Value.int IntKind.i64 (chkO n (opF f)))) (.need ((ByteArray.mk #[]).size ≤ 1000000 ∧ p.data.size ≤ 1000000) (.ite (decide ((↑p.12.size : Int) > (200 : Int))) (.leaf (Value.int IntKind.i64 11)) (.need (KindP p) (.ite (spareP p) (.leaf (Value.int IntKind.i64 4)) (.ite (!covOk p.12 p.6) (.leaf (Value.int IntKind.i64 3)) (.leaf (Value.int IntKind.i64 0))))))))))) (.ite (decide (p.1 = (7 : Int))) (.ite (!wn p.10 (256 : Int)) (.leaf (Value.int IntKind.i64 3)) (.ite (!wn p.11 (16777216 : Int)) (.leaf (Value.int IntKind.i64 3)) (.need (OpP n f) (.ite (!decide (chkO n (opF f) = (0 : Int))) (.leaf (Value.int IntKind.i64 (chkO n (opF f)))) (.need ((ByteArray.mk #[]).size ≤ 1000000 ∧ p.data.size ≤ 1000000) (.ite (decide ((↑p.12.size : Int) > (200 : Int))) (.leaf (Value.int IntKind.i64 11)) (.need (KindP p) (.ite (spareP p) (.leaf (Value.int IntKind.i64 4)) (.ite (!covOk p.12 p.6) (.leaf (Value.int IntKind.i64 3)) (.leaf (Value.int IntKind.i64 0))))))))))) (.need (OpP n f) (.ite (!decide (chkO n (opF f) = (0 : Int))) (.leaf (Value.int IntKind.i64 (chkO n (opF f)))) (.need ((ByteArray.mk #[]).size ≤ 1000000 ∧ p.data.size ≤ 1000000) (.ite (decide ((↑p.12.size : Int) > (200 : Int))) (.leaf (Value.int IntKind.i64 11)) (.need (KindP p) (.ite (spareP p) (.leaf (Value.int IntKind.i64 4)) (.ite (!covOk p.12 p.6) (.leaf (Value.int IntKind.i64 3)) (.leaf (Value.int IntKind.i64 0))))))))))))) (.ite (decide (p.1 < (2 : Int))) (.ite (!wn p.9 (4294967296 : Int)) (.leaf (Value.int IntKind.i64 3)) (.ite (decide (p.1 = (7 : Int))) (.ite (!wn p.10 (256 : Int)) (.leaf (Value.int IntKind.i64 3)) (.ite (!wn p.11 (16777216 : Int)) (.leaf (Value.int IntKind.i64 3)) (.need (OpP n f) (.ite (!decide (chkO n (opF f) = (0 : Int))) (.leaf (Value.int IntKind.i64 (chkO n (opF f)))) (.need ((ByteArray.mk #[]).size ≤ 1000000 ∧ p.data.size ≤ 1000000) (.ite (decide ((↑p.12.size : Int) > (200 : Int))) (.leaf (Value.int IntKind.i64 11)) (.need (KindP p) (.ite (spareP p) (.leaf (Value.int IntKind.i64 4)) (.ite (!covOk p.12 p.6) (.leaf (Value.int IntKind.i64 3)) (.leaf (Value.int IntKind.i64 0))))))))))) (.need (OpP n f) (.ite (!decide (chkO n (opF f) = (0 : Int))) (.leaf (Value.int IntKind.i64 (chkO n (opF f)))) (.need ((ByteArray.mk #[]).size ≤ 1000000 ∧ p.data.size ≤ 1000000) (.ite (decide ((↑p.12.size : Int) > (200 : Int))) (.leaf (Value.int IntKind.i64 11)) (.need (KindP p) (.ite (spareP p) (.leaf (Value.int IntKind.i64 4)) (.ite (!covOk p.12 p.6) (.leaf (Value.int IntKind.i64 3)) (.leaf (Value.int IntKind.i64 0))))))))))) (.ite (decide (p.1 = (7 : Int))) (.ite (!wn p.10 (256 : Int)) (.leaf (Value.int IntKind.i64 3)) (.ite (!wn p.11 (16777216 : Int)) (.leaf (Value.int IntKind.i64 3)) (.need (OpP n f) (.ite (!decide (chkO n (opF f) = (0 : Int))) (.leaf (Value.int IntKind.i64 (chkO n (opF f)))) (.need ((ByteArray.mk #[]).size ≤ 1000000 ∧ p.data.size ≤ 1000000) (.ite (decide ((↑p.12.size : Int) > (200 : Int))) (.leaf (Value.int IntKind.i64 11)) (.need (KindP p) (.ite (spareP p) (.leaf (Value.int IntKind.i64 4)) (.ite (!covOk p.12 p.6) (.leaf (Value.int IntKind.i64 3)) (.leaf (Value.int IntKind.i64 0))))))))))) (.need (OpP n f) (.ite (!decide (chkO n (opF f) = (0 : Int))) (.leaf (Value.int IntKind.i64 (chkO n (opF f)))) (.need ((ByteArray.mk #[]).size ≤ 1000000 ∧ p.data.size ≤ 1000000) (.ite (decide ((↑p.12.size : Int) > (200 : Int))) (.leaf (Value.int IntKind.i64 11)) (.need (KindP p) (.ite (spareP p) (.leaf (Value.int IntKind.i64 4)) (.ite (!covOk p.12 p.6) (.leaf (Value.int IntKind.i64 3)) (.leaf (Value.int IntKind.i64 0))))))))))))) := by kernel_rfl
end Go.Proofs.YtopeaafcepgnhaaGreat
namespace Go.Proofs.YtopeaafcepgnhaaGreat
open Go.RowKit Sym Go.ChangeShapes Go.WideShapes Go.ChangeMaps Inet
theorem packet_Check (p : Pk) (n : Nat) (f : Nat → Nat → Value) (ho : OpP n f ∧ p.data.size ≤ 1000000) (o : Value) (w : World) (hv : ∀ B, BlkSat B w o (.row n 2 f)) : Calls Tryz.prog 60 #[p.v o] w fun e w' => e = .returned (.int .i64 (chkP p n (opF f))) ∧ Below w.heap.size w w' := by
  refine calls_runO CP1_ok follows Tryz.func60 (by kernel_rfl) (by kernel_rfl) (noloops (by kernel_rfl)) (pcheck_run p n f) ?_ (mem_row (hv [o])) rfl
  obtain ⟨h1, h2⟩ := ho
  have z : (ByteArray.mk #[]).size ≤ 1000000 := Nat.zero_le _
  unfold chkP begH
  simp only [T.ok, Bool.not_eq_true', Bool.not_eq_false', decide_eq_true_eq, decide_eq_false_iff_not]
  refine ⟨h1, fun a => ?_, fun a => ⟨trivial, fun b => ?_, fun b => ⟨h1, fun c => ?_, fun c => ⟨⟨z, h2⟩, fun d => ?_, fun d => ⟨trivial, fun e => ?_, fun e => ⟨fun g => ?_, fun g => ?_⟩⟩⟩⟩⟩⟩
  · rw [if_neg a]
  · rw [if_pos a, if_neg (by rw [b]; decide)]
  · rw [if_pos a, if_pos b, if_neg c]
  · rw [if_pos a, if_pos b, if_pos c, if_pos (by omega)]
  · rw [if_pos a, if_pos b, if_pos c, if_neg (by omega), if_pos e]
  · rw [if_pos a, if_pos b, if_pos c, if_neg (by omega), if_neg (by rw [e]; decide), if_neg (by rw [g]; decide)]
  · rw [if_pos a, if_pos b, if_pos c, if_neg (by omega), if_neg (by rw [e]; decide), if_pos g]
theorem ref10_Check (p : Pk) (n : Nat) (f : Nat → Nat → Value) (ho : OpP n f ∧ p.data.size ≤ 1000000) (o : Value) (w : World) (hv : ∀ B, BlkSat B w o (.row n 2 f)) : Calls Tryz.prog 21 #[p.v o] w fun e w' => e = .returned (.int .i64 (chkP p n (opF f))) ∧ Below w.heap.size w w' := by
  refine calls_runO CP1_ok follows Tryz.func21 (by kernel_rfl) (by kernel_rfl) (noloops (by kernel_rfl)) (rcheck_run p n f) ?_ (mem_row (hv [o])) rfl
  obtain ⟨h1, h2⟩ := ho
  have z : (ByteArray.mk #[]).size ≤ 1000000 := Nat.zero_le _
  by_cases hc : Head.check (begH p n (opF f) 0) = 0
  · have hc' : Head.check ⟨p.src, p.dst, wordsP p n (opF f), p.ccval, p.cover, 0, p.kind, p.long, p.seq⟩ = 0 := hc
    have hk := (Head.check_ok hc).1
    have hk : 0 ≤ p.kind ∧ p.kind ≤ 9 := hk
    have hK : KindP p := hk.1
    have e2 : decide (p.kind < 2) = served p.kind := by
      unfold served
      by_cases h : p.kind < 2
      · simp [h]; omega
      · simp [h]; omega
    have e3 : chkP p n (opF f) = if numP p = true then (if chkO n (opF f) = 0 then (if p.data.size > 200 then 11 else if spareP p = true then 4 else if covOk p.data p.cover = true then 0 else 3) else chkO n (opF f)) else 3 := by
      unfold chkP; rw [if_pos hc]
    have last : ∀ r, numP p = r → T.ok (fun x => x = Value.int .i64 (chkP p n (opF f))) (bif r then (T.need (OpP n f) (T.ite (!decide (chkO n (opF f) = (0 : Int))) (T.leaf (Value.int IntKind.i64 (chkO n (opF f)))) (T.need ((ByteArray.mk #[]).size ≤ (1000000 : Nat) ∧ p.data.size ≤ (1000000 : Nat)) (T.ite (decide ((p.data.size : Int) > (200 : Int))) (T.leaf (Value.int IntKind.i64 (11 : Int))) (T.need (KindP p) (T.ite (spareP p) (T.leaf (Value.int IntKind.i64 (4 : Int))) (T.ite (!covOk p.data p.cover) (T.leaf (Value.int IntKind.i64 (3 : Int))) (T.leaf (Value.int IntKind.i64 (0 : Int)))))))))) else T.leaf (Value.int IntKind.i64 (3 : Int))) := by
      intro r hr
      rw [e3, hr]
      cases r
      · rfl
      · simp only [cond_true, if_true, T.ok, Bool.not_eq_true', Bool.not_eq_false', decide_eq_true_eq, decide_eq_false_iff_not]
        refine ⟨h1, fun c => ?_, fun c => ⟨⟨z, h2⟩, fun d => ?_, fun d => ⟨hK, fun e => ?_, fun e => ⟨fun g => ?_, fun g => ?_⟩⟩⟩⟩
        · rw [if_neg c]
        · rw [if_pos c, if_pos (by omega)]
        · rw [if_pos c, if_neg (by omega), if_pos e]
        · rw [if_pos c, if_neg (by omega), if_neg (by rw [e]; decide), if_neg (by rw [g]; decide)]
        · rw [if_pos c, if_neg (by omega), if_neg (by rw [e]; decide), if_pos g]
    refine ⟨h1, fun a => ?_, fun _ => ?_⟩
    · rw [hc'] at a; cases a
    · have hr : ∀ r, numP p = r → _ := last
      unfold numP Head.most at hr
      clear last e3
      rw [e2]
      generalize chkP p n (opF f) = v at *
      generalize Head.acks p.kind = a at *
      generalize served p.kind = s at *
      generalize decide (p.kind = 7) = k at *
      generalize wn p.service 4294967296 = x at *
      generalize wn p.code 256 = y at *
      generalize wn p.detail 16777216 = u at *
      generalize p.long = l at *
      have e : wn p.ack (if l = true then 281474976710656 else 16777216) = bif l then wn p.ack 281474976710656 else wn p.ack 16777216 := by cases l <;> rfl
      rw [e] at hr
      clear e
      generalize wn p.ack 16777216 = b at *
      generalize wn p.ack 281474976710656 = c at *
      clear hc hc' hk hK e2
      repeat' (first | exact hr _ rfl | (refine ⟨fun h => ?_, fun h => ?_⟩ <;> (try simp only [Bool.not_eq_true', Bool.not_eq_false'] at h) <;> first | (cases h; done) | subst h | skip))
  · have e3 : chkP p n (opF f) = Head.check (begH p n (opF f) 0) := by unfold chkP; rw [if_neg hc]
    rw [e3]
    refine ⟨h1, fun _ => rfl, fun a => ?_⟩
    exfalso
    apply hc
    have a' : Head.check ⟨p.src, p.dst, wordsP p n (opF f), p.ccval, p.cover, 0, p.kind, p.long, p.seq⟩ = 0 := by simpa using a
    exact a'
end Go.Proofs.YtopeaafcepgnhaaGreat
namespace Go.Proofs.YtopeaafcepgnhaaGreat
open Go.RowKit Sym Go.ChangeShapes Go.WideShapes Go.ChangeMaps
def optZ : Value := .agg #[.int .i64 0, .string ⟨#[]⟩]
theorem opt_info : (Tryz.prog.info? 64).map (fun i => (i.zero, i.size, i.bytes)) = some (some optZ, 2, 24) := by kernel_rfl
set_option maxRecDepth 100000 in
set_option maxHeartbeats 4000000 in
theorem grow_nil (n : Nat) (hn : 0 < n) (hb : n * 24 ≤ 140737488355328) (w : World) : Calls Tryz.prog 94 #[.slice none 0 0, .int .i64 n] w fun e w' =>
    e = .returned (.slice (some ⟨w.heap.size, 0, none⟩) 0 (grownCap w n 0 64)) ∧ w' = w.drew.alloc (.cells (Builtin.zeroCells optZ.cells n ++ Builtin.zeroCells optZ.cells (grownCap w n 0 64 - n)) 64) := by
  obtain ⟨i, hi, hz, hs, hy⟩ := info_parts opt_info
  have hr := fun ty => Lib.run_append_nil_zeros w 23 3 ty 64 i optZ .i64 .i64 Tryz.underlying23 Tryz.underlying3 hi hz n hn (by rw [hs]; decide) (by omega) (by rw [hy]; omega)
  have hGn : n ≤ grownCap w n 0 64 := grownCap_ge w _ _ _
  have hG63 : grownCap w n 0 64 ≤ 9223372036854775807 := by
    have := grownCap_le_maxLen w n 0 64 (by unfold maxLen; omega)
    unfold maxLen at this
    omega
  generalize grownCap w n 0 64 = G at hr hGn hG63 ⊢
  have h2 : wrap64 ((0 : Int) - 0) = 0 := by unfold wrap64; omega
  have h3 : wrap64 ((n : Int) - 0) = n := by unfold wrap64; omega
  have h4 : wrap64 (n : Int) = n := by unfold wrap64; omega
  have h5 : wrap64 (0 : Int) = 0 := by unfold wrap64; omega
  generalize Builtin.zeroCells optZ.cells n = A1 at hr ⊢
  generalize Builtin.zeroCells optZ.cells (G - n) = A2 at hr ⊢
  go_enter Tryz.func94, Tryz.ntmps94
  go_wp2_with (at_builtin; refine Lib.wpList_append_run _ rfl _ _ _ _ rfl _ _ rfl rfl _ _ (hr _) ?_)
  all_goals (go_ret; exact ⟨rfl, rfl⟩)
set_option maxRecDepth 100000 in
theorem grow_zero (w : World) : Calls Tryz.prog 94 #[.slice none 0 0, .int .i64 0] w fun e w' => e = .returned (.slice none 0 0) ∧ w' = w := by
  have h2 : wrap64 ((0 : Int) - 0) = 0 := by unfold wrap64; omega
  have h5 : wrap64 (0 : Int) = 0 := by unfold wrap64; omega
  go_enter Tryz.func94, Tryz.ntmps94
  go_wp2
  go_ret
  exact ⟨rfl, rfl⟩
def fGrowO : List SV → List Blk → Option (T (SV × List Blk))
  | [.v (.slice none 0 0), .v (.int .i64 z)], [] => some (.need (0 ≤ z ∧ z * 24 ≤ 140737488355328) (.leaf (.ref 0, [.vec true 64 2 0 []])))
  | _, _ => none
theorem fGrowO_ok : EntryOk Tryz.prog 94 fGrowO := by
  intro ss H t h bs B w vs hm hv Qs hq
  unfold fGrowO at h
  split at h
  · rename_i z
    simp only [Option.some.injEq] at h
    subst h
    obtain ⟨⟨h0, h1⟩, hq⟩ := hq
    obtain ⟨x0, r0, e0, v0, rfl⟩ := tos_cons hv
    obtain ⟨x1, r1, e1, v1, rfl⟩ := tos_cons v0
    obtain rfl := tos_nil v1
    simp only [SV.to, Option.some.injEq] at e0 e1
    subst e0 e1
    obtain ⟨n, rfl⟩ : ∃ n : Nat, z = n := ⟨z.toNat, by omega⟩
    have hB : B = [] := List.length_eq_zero_iff.1 (by simpa using hm.sat.len)
    subst hB
    by_cases hn : n = 0
    · subst hn
      refine (grow_zero w).mono ?_
      rintro e w' ⟨rfl, rfl⟩
      refine ⟨_, _, [.slice none 0 0], _, hq, List.nil_prefix, rfl, rfl, ?_⟩
      exact hm.add (y := .vec true 64 2 0 []) (u := .slice none 0 0) ⟨rfl, rfl, rfl, Nat.le_refl _, fun _ _ _ => rfl⟩ (fun b hb => by cases hb) (.inl ⟨rfl, .inl ⟨rfl, rfl⟩⟩)
    · refine (grow_nil n (by omega) (by omega) w).mono ?_
      rintro e w' ⟨rfl, rfl⟩
      refine ⟨_, _, [.slice (some ⟨w.heap.size, 0, none⟩) 0 (grownCap w n 0 64)], _, hq, List.nil_prefix, rfl, rfl, ?_⟩
      have hGn : n ≤ grownCap w n 0 64 := grownCap_ge w _ _ _
      have hGm := grownCap_le_maxLen w n 0 64 (by unfold maxLen; omega)
      generalize grownCap w n 0 64 = G at hGn hGm ⊢
      have hz : ∀ m, (Builtin.zeroCells optZ.cells m).size = m * 2 := fun m => by simp [Builtin.zeroCells, optZ, Value.cells]
      have hb0 : Below w.heap.size w (w.drew.alloc (.cells (Builtin.zeroCells optZ.cells n ++ Builtin.zeroCells optZ.cells (G - n)) 64)) := ((Below.refl _ w).drew).alloc (Nat.le_refl _) _
      refine hm.add (y := .vec true 64 2 0 []) (below_grown hb0) (fun b hb => by simp only [blockOf, Option.some.injEq] at hb; omega) (.inl ⟨rfl, .inr ⟨w.heap.size, G, _, rfl, Nat.zero_le _, heap_alloc_new w.drew _, Nat.zero_le _, hGm, ?_, by simp⟩⟩)
      rw [Array.size_append, hz, hz]; omega
  · cases h
def FGrow : LTab := addF 94 fGrowO noF
theorem FGrow_ok : LOk Tryz.prog FGrow := addF_ok noF_ok (by kernel_rfl) fGrowO_ok
abbrev CGrow (P : Program) : Cfg := both P noS FGrow [94]
theorem CGrow_ok : CfgOk Tryz.prog (CGrow Tryz.prog) := both_ok noS_ok FGrow_ok
def LCat (P : Program) (fn : Func) : Nat → St → Option (T (Ex × St)) :=
  addL 2 (unrollB (runC P (CGrow P) noL fn.ntmps (loopAt fn 1)) 2 3) <| addL 0 (unrollB (runC P (CGrow P) noL fn.ntmps (loopAt fn 0)) 0 3) noL
theorem fCat_ok : EntryOk Tryz.prog 67 (inl Tryz.prog (CGrow Tryz.prog) (LCat Tryz.prog Tryz.f67) Tryz.f67) :=
  inl_ok CGrow_ok follows Tryz.func67 (by kernel_rfl) (by kernel_rfl) (two_loops (b1 := loopAt Tryz.f67 0) (b2 := loopAt Tryz.f67 1) (id1 := 0) (id2 := 2) (by kernel_rfl)
    (fun st t h => by rw [addL_same (addL_other (by decide) h)]; exact unroll_ok CGrow_ok follows (by kernel_rfl) (noloops (by kernel_rfl)) 3 st)
    (fun st t h => by rw [addL_same h]; exact unroll_ok CGrow_ok follows (by kernel_rfl) (noloops (by kernel_rfl)) 3 st))
end Go.Proofs.YtopeaafcepgnhaaGreat
namespace Go.Proofs.YtopeaafcepgnhaaGreat.Circ
open Go.RowKit
def of (n : Int) : Int := n % 281474976710656
def add (a n : Int) : Int := (of a + of n) % 281474976710656
def up (a b : Int) : Int := (of b - of a) % 281474976710656
def far (a b : Int) : Int := if 140737488355328 < up b a then up b a - 281474976710656 else up b a
def less (a b : Int) : Bool := decide (far a b < 0)
def later (a b : Int) : Int := if less a b = true then of b else of a
def many (a b : Int) : Int := up a b + 1
def within (n a b : Int) : Bool := decide (up a n ≤ up a b)
theorem and_mask (n : Int) : bits .and .i64 n 281474976710655 = n % 281474976710656 := by
  show IntKind.i64.wrap ((BitVec.ofInt 64 n &&& BitVec.ofInt 64 281474976710655).toNat : Int) = _
  rw [BitVec.toNat_and, show (BitVec.ofInt 64 281474976710655).toNat = 2 ^ 48 - 1 from by decide, Nat.and_two_pow_sub_one_eq_mod, BitVec.toNat_ofInt, IntKind.wrap_i64]
  omega
theorem of_lo (n : Int) : 0 ≤ of n := by unfold of; omega
theorem of_hi (n : Int) : of n < 281474976710656 := by unfold of; omega
theorem up_lo (a b : Int) : 0 ≤ up a b := by unfold up; omega
theorem up_hi (a b : Int) : up a b < 281474976710656 := by unfold up; omega
theorem add_lo (a b : Int) : 0 ≤ add a b := by unfold add; omega
theorem add_hi (a b : Int) : add a b < 281474976710656 := by unfold add; omega
theorem of_in {n : Int} (h0 : 0 ≤ n) (h1 : n < 281474976710656) : of n = n := by unfold of; omega
theorem tmod_lo (n : Int) : -281474976710656 < n.tmod 281474976710656 := by
  rcases Int.le_total 0 n with h | h
  · rw [Int.tmod_eq_emod_of_nonneg h]; omega
  · rw [show n = -(-n) by omega, Int.neg_tmod, Int.tmod_eq_emod_of_nonneg (by omega)]; omega
theorem tmod_hi (n : Int) : n.tmod 281474976710656 < 281474976710656 := by
  rcases Int.le_total 0 n with h | h
  · rw [Int.tmod_eq_emod_of_nonneg h]; omega
  · rw [show n = -(-n) by omega, Int.neg_tmod, Int.tmod_eq_emod_of_nonneg (by omega)]; omega
theorem tmod_neg {n : Int} (h : n.tmod 281474976710656 < 0) : n.tmod 281474976710656 + 281474976710656 = of n := by
  unfold of
  rcases Int.le_total 0 n with h0 | h0
  · rw [Int.tmod_eq_emod_of_nonneg h0] at h; omega
  · rw [show n = -(-n) by omega, Int.neg_tmod, Int.tmod_eq_emod_of_nonneg (by omega)] at h ⊢; omega
theorem tmod_pos {n : Int} (h : 0 ≤ n.tmod 281474976710656) : n.tmod 281474976710656 = of n := by
  unfold of
  rcases Int.le_total 0 n with h0 | h0
  · rw [Int.tmod_eq_emod_of_nonneg h0]
  · rw [show n = -(-n) by omega, Int.neg_tmod, Int.tmod_eq_emod_of_nonneg (by omega)] at h ⊢; omega
def far1 (d : Int) : Int := if 140737488355328 < d then d - 281474976710656 else d
def far2 (d : Int) : Int := if d ≤ -140737488355328 then d + 281474976710656 else d
theorem far_steps (a b : Int) : far2 (far1 (of a - of b)) = far a b := by
  have := of_lo a; have := of_hi a; have := of_lo b; have := of_hi b
  unfold far far2 far1 up
  split <;> split <;> split <;> omega
theorem many_eq (a b : Int) : (if of b < of a then of b + 281474976710656 else of b) - of a + 1 = many a b := by
  have := of_lo a; have := of_hi a; have := of_lo b; have := of_hi b
  unfold many up
  split <;> omega
theorem within_many (n a b : Int) : decide (many a n ≤ many a b) = within n a b := by
  unfold within many; rw [decide_eq_decide]; omega
end Go.Proofs.YtopeaafcepgnhaaGreat.Circ
namespace Go.Proofs.YtopeaafcepgnhaaGreat
open Go.RowKit
theorem circ_of (n : Int) (w : World) : Calls Tryz.prog 70 #[.int .i64 n] w fun e w' => e = .returned (.int .i64 (Circ.of n)) ∧ w = w' := by
  have H : bits .and .i64 n 281474976710655 = Circ.of n := Circ.and_mask n
  go_enter Tryz.func70, Tryz.ntmps70
  go_wp2
  go_ret
  exact ⟨rfl, rfl⟩
theorem circ_add (a n : Int) (w : World) : Calls Tryz.prog 34 #[.int .i64 a, .int .i64 n] w fun e w' => e = .returned (.int .i64 (Circ.add a n)) ∧ w = w' := by
  have h1 := Circ.of_lo a
  have h2 := Circ.of_hi a
  have h3 := Circ.of_lo n
  have h4 := Circ.of_hi n
  have H : bits .and .i64 (Circ.of a + Circ.of n) 281474976710655 = Circ.add a n := Circ.and_mask _
  go_enter Tryz.func34, Tryz.ntmps34
  go_wp2_with (go_at_call 70; refine (circ_of _ _).mono ?_; rintro e w1 ⟨rfl, rfl⟩)
  go_ret
  exact ⟨rfl, rfl⟩
theorem circ_up (a n : Int) (w : World) : Calls Tryz.prog 112 #[.int .i64 a, .int .i64 n] w fun e w' => e = .returned (.int .i64 (Circ.up a n)) ∧ w = w' := by
  have h1 := Circ.of_lo a
  have h2 := Circ.of_hi a
  have h3 := Circ.of_lo n
  have h4 := Circ.of_hi n
  have H : bits .and .i64 (Circ.of n - Circ.of a) 281474976710655 = Circ.up a n := Circ.and_mask _
  go_enter Tryz.func112, Tryz.ntmps112
  go_wp2_with (go_at_call 70; refine (circ_of _ _).mono ?_; rintro e w1 ⟨rfl, rfl⟩)
  go_ret
  exact ⟨rfl, rfl⟩
theorem circ_far (a b : Int) (w : World) : Calls Tryz.prog 119 #[.int .i64 a, .int .i64 b] w fun e w' => e = .returned (.int .i64 (Circ.far a b)) ∧ w = w' := by
  have h1 := Circ.up_lo b a
  have h2 := Circ.up_hi b a
  go_enter Tryz.func119, Tryz.ntmps119
  go_wp2_with (go_at_call 112; refine (circ_up _ _ _).mono ?_; rintro e w1 ⟨rfl, rfl⟩)
  all_goals (go_ret; go_light; exact ⟨ret_i (by simp (disch := omega) only [Circ.far, if_pos, if_neg]), rfl⟩)
theorem circ_less (a b : Int) (w : World) : Calls Tryz.prog 115 #[.int .i64 a, .int .i64 b] w fun e w' => e = .returned (.bool (Circ.less a b)) ∧ w = w' := by
  go_enter Tryz.func115, Tryz.ntmps115
  go_wp2_with (go_at_call 119; refine (circ_far _ _ _).mono ?_; rintro e w1 ⟨rfl, rfl⟩)
  go_ret
  exact ⟨rfl, rfl⟩
theorem circ_later (a b : Int) (w : World) : Calls Tryz.prog 93 #[.int .i64 a, .int .i64 b] w fun e w' => e = .returned (.int .i64 (Circ.later a b)) ∧ w = w' := by
  go_enter Tryz.func93, Tryz.ntmps93
  go_wp2_with (first | (go_at_call 115; refine (circ_less _ _ _).mono ?_; rintro e w1 ⟨rfl, rfl⟩) | (go_at_call 70; refine (circ_of _ _).mono ?_; rintro e w1 ⟨rfl, rfl⟩))
  all_goals (go_ret; go_light; exact ⟨by simp [Circ.later, *], rfl⟩)
theorem circ_within (n a b : Int) (w : World) : Calls Tryz.prog 89 #[.int .i64 n, .int .i64 a, .int .i64 b] w fun e w' => e = .returned (.bool (Circ.within n a b)) ∧ w = w' := by
  go_enter Tryz.func89, Tryz.ntmps89
  go_wp2_with (go_at_call 112; refine (circ_up _ _ _).mono ?_; rintro e w1 ⟨rfl, rfl⟩)
  go_ret
  exact ⟨rfl, rfl⟩
theorem ref02_of (n : Int) (w : World) : Calls Tryz.prog 20 #[.int .i64 n] w fun e w' => e = .returned (.int .i64 (Circ.of n)) ∧ w = w' := by
  have h1 := Circ.tmod_lo n
  have h2 := Circ.tmod_hi n
  go_enter Tryz.func20, Tryz.ntmps20
  go_wp2
  all_goals (go_ret; go_light)
  · exact ⟨ret_v (by rw [← Circ.tmod_neg (by assumption)]; rfl), rfl⟩
  · exact ⟨ret_v (by rw [← Circ.tmod_pos (by omega)]; rfl), rfl⟩
theorem ref02_add (a n : Int) (w : World) : Calls Tryz.prog 19 #[.int .i64 a, .int .i64 n] w fun e w' => e = .returned (.int .i64 (Circ.add a n)) ∧ w = w' := by
  have h1 := Circ.of_lo a
  have h2 := Circ.of_hi a
  have h3 := Circ.of_lo n
  have h4 := Circ.of_hi n
  go_enter Tryz.func19, Tryz.ntmps19
  go_wp2_with (go_at_call 20; refine (ref02_of _ _).mono ?_; rintro e w1 ⟨rfl, rfl⟩)
  go_ret
  exact ⟨rfl, rfl⟩
theorem ref02_far (a b : Int) (w : World) : Calls Tryz.prog 101 #[.int .i64 a, .int .i64 b] w fun e w' => e = .returned (.int .i64 (Circ.far a b)) ∧ w = w' := by
  have h1 := Circ.of_lo a
  have h2 := Circ.of_hi a
  have h3 := Circ.of_lo b
  have h4 := Circ.of_hi b
  have HF := Lib.hid (Circ.far_steps a b)
  go_enter Tryz.func101, Tryz.ntmps101
  go_wp2_with (go_at_call 20; refine (ref02_of _ _).mono ?_; rintro e w1 ⟨rfl, rfl⟩)
  have hd1 : -281474976710656 < Circ.of a - Circ.of b := by omega
  have hd2 : Circ.of a - Circ.of b < 281474976710656 := by omega
  generalize Circ.of a - Circ.of b = d at *
  go_loop [5] (fun n => n = .int .i64 d ∨ (140737488355328 < d ∧ n = .int .i64 (d - 281474976710656))) (fun n => (intOf n).toNat)
  case atStart => exact .inl rfl
  case round =>
    rcases hrel with rfl | ⟨hd, rfl⟩
    · by_cases hd : 140737488355328 < d
      · go_wp2
        go_round
        case rel => exact .inr ⟨hd, rfl⟩
        case measure => simp [intOf]; omega
      · go_wp2
        go_loop [5] (fun n => n = .int .i64 d ∨ (d ≤ -140737488355328 ∧ n = .int .i64 (d + 281474976710656))) (fun n => (281474976710656 - intOf n).toNat)
        case atStart => exact .inl rfl
        case round =>
          rcases hrel with rfl | ⟨he, rfl⟩
          · by_cases he : d ≤ -140737488355328
            · go_wp2
              go_round
              case rel => exact .inr ⟨he, rfl⟩
              case measure => simp [intOf]; omega
            · go_wp2
              go_ret
              exact ⟨ret_i (by rw [← HF.out]; unfold Circ.far1 Circ.far2; rw [if_neg (by omega), if_neg (by omega)]), rfl⟩
          · go_wp2
            go_ret
            exact ⟨ret_i (by rw [← HF.out]; rw [show Circ.far1 d = d from if_neg (by omega)]; exact (if_pos he).symm), rfl⟩
    · go_wp2
      go_loop [5] (fun n => n = .int .i64 (d - 281474976710656)) (fun n => 0)
      case atStart => rfl
      case round =>
        subst hrel
        go_wp2
        go_ret
        exact ⟨ret_i (by rw [← HF.out]; unfold Circ.far1 Circ.far2; rw [if_pos hd, if_neg (by omega)]), rfl⟩
theorem ref02_less (a b : Int) (w : World) : Calls Tryz.prog 103 #[.int .i64 a, .int .i64 b] w fun e w' => e = .returned (.bool (Circ.less a b)) ∧ w = w' := by
  go_enter Tryz.func103, Tryz.ntmps103
  go_wp2_with (go_at_call 101; refine (ref02_far _ _ _).mono ?_; rintro e w1 ⟨rfl, rfl⟩)
  go_ret
  exact ⟨rfl, rfl⟩
theorem ref02_later (a b : Int) (w : World) : Calls Tryz.prog 104 #[.int .i64 a, .int .i64 b] w fun e w' => e = .returned (.int .i64 (Circ.later a b)) ∧ w = w' := by
  go_enter Tryz.func104, Tryz.ntmps104
  go_wp2_with (first | (go_at_call 103; refine (ref02_less _ _ _).mono ?_; rintro e w1 ⟨rfl, rfl⟩) | (go_at_call 20; refine (ref02_of _ _).mono ?_; rintro e w1 ⟨rfl, rfl⟩))
  all_goals (go_ret; go_light; exact ⟨by simp [Circ.later, *], rfl⟩)
end Go.Proofs.YtopeaafcepgnhaaGreat
namespace Go.Proofs.YtopeaafcepgnhaaGreat.Span
open Go.Proofs.YtopeaafcepgnhaaGreat
structure Marks where
  iss : Int
  isr : Int
  gss : Int
  gsr : Int
  gar : Int
  deriving DecidableEq
abbrev Marks.v (m : Marks) : Value := .agg #[.int .i64 m.iss, .int .i64 m.isr, .int .i64 m.gss, .int .i64 m.gsr, .int .i64 m.gar]
def begin (iss gss isr gsr : Int) : Marks := ⟨Circ.of iss, Circ.of isr, Circ.of gss, Circ.of gsr, Circ.of iss⟩
def swl (m : Marks) : Int := Circ.later (Circ.add m.gsr (-15)) m.isr
def swh (m : Marks) : Int := Circ.add m.gsr 48
def awl (m : Marks) : Int := Circ.later (Circ.add m.gss (-63)) m.iss
def awh (m : Marks) : Int := Circ.of m.gss
def ending (k : Int) : Bool := k == 5 || k == 6 || k == 7
def numbered (m : Marks) (k s : Int) : Bool :=
  if k = 8 ∨ k = 9 then !Circ.less s (swl m) else if ending k = true then Circ.within s (Circ.add m.gsr 1) (swh m) else Circ.within s (swl m) (swh m)
def acks (m : Marks) (k a : Int) : Bool := Circ.within a (if ending k = true then m.gar else awl m) (awh m)
def valid (m : Marks) (k s a : Int) : Int :=
  if Head.size k true = 0 then 7 else if numbered m k s = false then 12 else if Head.acks k = true ∧ acks m k a = false then 13 else 0
def came (m : Marks) (k s a : Int) : Marks := ⟨m.iss, m.isr, m.gss, Circ.later m.gsr s, if Head.acks k = true then Circ.later m.gar a else m.gar⟩
def sent (m : Marks) : Marks := ⟨m.iss, m.isr, Circ.add m.gss 1, m.gsr, m.gar⟩
end Go.Proofs.YtopeaafcepgnhaaGreat.Span
namespace Go.Proofs.YtopeaafcepgnhaaGreat
open Go.RowKit
theorem span_begin (a b c d : Int) (w : World) : Calls Tryz.prog 30 #[.int .i64 a, .int .i64 b, .int .i64 c, .int .i64 d] w fun e w' => e = .returned (Span.begin a b c d).v ∧ Below w.heap.size w w' := by
  go_enter Tryz.func30, Tryz.ntmps30
  go_wp2_with (go_at_call 70; refine (circ_of _ _).mono ?_; rintro e w1 ⟨rfl, rfl⟩)
  go_returns
  exact ⟨rfl, by (repeat' (first | (with_reducible exact Below.refl _ _) | (with_reducible refine below_alloc ?_ _) | (with_reducible refine Below.drew ?_) | (with_reducible refine below_drewN ?_ _) | (with_reducible refine Below.setCell ?_ ?_ _) | (with_reducible assumption) | (with_reducible refine below_of ?_ (by assumption)) | omega | (simp only [World.size_alloc, World.size_setCell, World.size_drew, size_drewN] at *; omega) | (simp; omega)))⟩
theorem span_limits (m : Span.Marks) (w : World) : Calls Tryz.prog 117 #[m.v] w fun e w' => e = .returned (.tuple #[.int .i64 (Span.swl m), .int .i64 (Span.swh m), .int .i64 (Span.awl m), .int .i64 (Span.awh m)]) ∧ Below w.heap.size w w' := by
  obtain ⟨iss, isr, gss, gsr, gar⟩ := m
  go_enter Tryz.func117, Tryz.ntmps117
  go_wp2
  go_quiet (first | (go_at_call 34; first | exact quiet_left (circ_add _ _ _) | exact quiet_add_left (circ_add _ _ _)) | (go_at_call 93; first | exact quiet_left (circ_later _ _ _) | exact quiet_add_left (circ_later _ _ _)))
  go_wp2
  go_quiet (first | (go_at_call 34; first | exact quiet_left (circ_add _ _ _) | exact quiet_add_left (circ_add _ _ _)) | (go_at_call 93; first | exact quiet_left (circ_later _ _ _) | exact quiet_add_left (circ_later _ _ _)))
  go_wp2
  go_quiet (first | (go_at_call 34; first | exact quiet_left (circ_add _ _ _) | exact quiet_add_left (circ_add _ _ _)) | (go_at_call 70; first | exact quiet_left (circ_of _ _) | exact quiet_add_left (circ_of _ _)))
  go_wp2
  go_returns
  exact ⟨rfl, by (repeat' (first | (with_reducible exact Below.refl _ _) | (with_reducible refine below_alloc ?_ _) | (with_reducible refine Below.drew ?_) | (with_reducible refine below_drewN ?_ _) | (with_reducible refine Below.setCell ?_ ?_ _) | (with_reducible assumption) | (with_reducible refine below_of ?_ (by assumption)) | omega | (simp only [World.size_alloc, World.size_setCell, World.size_drew, size_drewN] at *; omega) | (simp; omega)))⟩
theorem span_ending (k : Int) (w : World) : Calls Tryz.prog 118 #[.int .i64 k] w fun e w' => e = .returned (.bool (Span.ending k)) ∧ w = w' := by
  go_enter Tryz.func118, Tryz.ntmps118
  go_wp2
  all_goals (go_returns; go_light)
  all_goals exact ⟨ret_b (by (first | rfl | (rw [Bool.eq_iff_iff]; simp [Span.ending]; done) | (rw [Bool.eq_iff_iff]; simp [Span.ending]; omega))), rfl⟩
theorem span_numbered (m : Span.Marks) (k s : Int) (w : World) : Calls Tryz.prog 113 #[m.v, .int .i64 k, .int .i64 s] w fun e w' => e = .returned (.bool (Span.numbered m k s)) ∧ Below w.heap.size w w' := by
  by_cases h8 : k = 8 ∨ k = 9
  · have hr : Span.numbered m k s = !Circ.less s (Span.swl m) := if_pos h8
    rw [hr]
    clear hr
    rcases h8 with rfl | rfl
    all_goals
      go_enter Tryz.func113, Tryz.ntmps113
      go_wp2_with (first | (go_at_call 117; refine (span_limits _ _).mono ?_; rintro e w1 ⟨rfl, hb⟩; have hz := hb.size; obtain ⟨hc, hf⟩ := bcell hb; (try simp only [World.size_alloc, World.size_setCell, World.size_drew, size_drewN] at hz)) | (go_at_call 115; refine (circ_less _ _ _).mono ?_; rintro e w1 ⟨rfl, rfl⟩))
      all_goals (go_returns; exact ⟨rfl, by (repeat' (first | (with_reducible exact Below.refl _ _) | (with_reducible refine below_alloc ?_ _) | (with_reducible refine Below.drew ?_) | (with_reducible refine below_drewN ?_ _) | (with_reducible refine Below.setCell ?_ ?_ _) | (with_reducible assumption) | (with_reducible refine below_of ?_ (by assumption)) | omega | (simp only [World.size_alloc, World.size_setCell, World.size_drew, size_drewN] at *; omega) | (simp; omega)))⟩)
  · have hr : Span.numbered m k s = if Span.ending k = true then Circ.within s (Circ.add m.gsr 1) (Span.swh m) else Circ.within s (Span.swl m) (Span.swh m) := if_neg h8
    rw [hr]
    have e8 : (k == 8) = false := by simp; omega
    have e9 : (k == 9) = false := by simp; omega
    clear hr h8
    generalize he : Span.ending k = en
    have He := Lib.hid he
    clear he
    go_enter Tryz.func113, Tryz.ntmps113
    go_wp2_with (first | (go_at_call 117; refine (span_limits _ _).mono ?_; rintro e w1 ⟨rfl, hb⟩; have hz := hb.size; obtain ⟨hc, hf⟩ := bcell hb; (try simp only [World.size_alloc, World.size_setCell, World.size_drew, size_drewN] at hz)) | (go_at_call 118; refine (span_ending _ _).mono ?_; rw [He.out]; rintro e w1 ⟨rfl, rfl⟩) | (go_at_call 34; refine (circ_add _ _ _).mono ?_; rintro e w1 ⟨rfl, rfl⟩) | (go_at_call 89; refine (circ_within _ _ _ _).mono ?_; rintro e w1 ⟨rfl, rfl⟩))
    all_goals (go_returns; go_light; exact ⟨ret_b (by simp [*]), by (repeat' (first | (with_reducible exact Below.refl _ _) | (with_reducible refine below_alloc ?_ _) | (with_reducible refine Below.drew ?_) | (with_reducible refine below_drewN ?_ _) | (with_reducible refine Below.setCell ?_ ?_ _) | (with_reducible assumption) | (with_reducible refine below_of ?_ (by assumption)) | omega | (simp only [World.size_alloc, World.size_setCell, World.size_drew, size_drewN] at *; omega) | (simp; omega)))⟩)
theorem span_acks (m : Span.Marks) (k a : Int) (w : World) : Calls Tryz.prog 114 #[m.v, .int .i64 k, .int .i64 a] w fun e w' => e = .returned (.bool (Span.acks m k a)) ∧ Below w.heap.size w w' := by
  have hr : Span.acks m k a = if Span.ending k = true then Circ.within a m.gar (Span.awh m) else Circ.within a (Span.awl m) (Span.awh m) := by unfold Span.acks; split <;> rfl
  rw [hr]
  clear hr
  generalize he : Span.ending k = en
  have He := Lib.hid he
  clear he
  go_enter Tryz.func114, Tryz.ntmps114
  go_wp2_with (first | (go_at_call 117; refine (span_limits _ _).mono ?_; rintro e w1 ⟨rfl, hb⟩; have hz := hb.size; obtain ⟨hc, hf⟩ := bcell hb; (try simp only [World.size_alloc, World.size_setCell, World.size_drew, size_drewN] at hz)) | (go_at_call 118; refine (span_ending _ _).mono ?_; rw [He.out]; rintro e w1 ⟨rfl, rfl⟩) | (go_at_call 89; refine (circ_within _ _ _ _).mono ?_; rintro e w1 ⟨rfl, rfl⟩))
  all_goals (go_returns; go_light; exact ⟨ret_b (by simp [*]), by (repeat' (first | (with_reducible exact Below.refl _ _) | (with_reducible refine below_alloc ?_ _) | (with_reducible refine Below.drew ?_) | (with_reducible refine below_drewN ?_ _) | (with_reducible refine Below.setCell ?_ ?_ _) | (with_reducible assumption) | (with_reducible refine below_of ?_ (by assumption)) | omega | (simp only [World.size_alloc, World.size_setCell, World.size_drew, size_drewN] at *; omega) | (simp; omega)))⟩)
theorem span_came (m : Span.Marks) (k s a : Int) (w : World) : Calls Tryz.prog 64 #[m.v, .int .i64 k, .int .i64 s, .int .i64 a] w fun e w' => e = .returned (Span.came m k s a).v ∧ Below w.heap.size w w' := by
  unfold Span.came
  generalize he : Head.acks k = en
  have He := Lib.hid he
  clear he
  go_enter Tryz.func64, Tryz.ntmps64
  go_wp2_with (first | (go_at_call 91; refine (head_acks _ _).mono ?_; rw [He.out]; rintro e w1 ⟨rfl, hb⟩; have hz := hb.size; (try simp only [World.size_alloc, World.size_setCell, World.size_drew, size_drewN] at hz); apply own_step (B := w.heap.size) hb; (focus (repeat (first | (with_reducible assumption) | (with_reducible exact own_new _ _ _) | ((with_reducible apply own_new'); focus (first | omega | (simp; done) | (simp; omega))) | (with_reducible apply own_drewN) | (with_reducible apply own_drew) | (with_reducible apply own_alloc) | (with_reducible apply own_setT) | ((with_reducible apply own_set_otherH); focus (first | (simp; done) | (simp; omega)))))); intro hO0; have hk0 := hO0.2.1; have hl0 := hO0.1; have hf0 := hO0.2.2; (try simp only [List.setIfInBounds_toArray, List.set_cons_zero, List.set_cons_succ] at hO0 hk0); apply own_step (B := w.heap.size + 1) hb; (focus (repeat (first | (with_reducible assumption) | (with_reducible exact own_new _ _ _) | ((with_reducible apply own_new'); focus (first | omega | (simp; done) | (simp; omega))) | (with_reducible apply own_drewN) | (with_reducible apply own_drew) | (with_reducible apply own_alloc) | (with_reducible apply own_setT) | ((with_reducible apply own_set_otherH); focus (first | (simp; done) | (simp; omega)))))); intro hO1; have hk1 := hO1.2.1; have hl1 := hO1.1; have hf1 := hO1.2.2; (try simp only [List.setIfInBounds_toArray, List.set_cons_zero, List.set_cons_succ] at hO1 hk1)) | (go_at_call 93; refine (circ_later _ _ _).mono ?_; rintro e w1 ⟨rfl, rfl⟩))
  all_goals (((try simp only [Exit.inBlock, Exit.then]); refine bodyPost_ret (by simp [results, Tryz.results64, go_sem, hk0, hk1]; try rfl) rfl ?_); go_light; refine ⟨?_, by (repeat' (first | (with_reducible exact Below.refl _ _) | (with_reducible refine below_alloc ?_ _) | (with_reducible refine Below.drew ?_) | (with_reducible refine below_drewN ?_ _) | (with_reducible refine Below.setCell ?_ ?_ _) | (with_reducible assumption) | (with_reducible refine below_of ?_ (by assumption)) | omega | (simp only [World.size_alloc, World.size_setCell, World.size_drew, size_drewN] at *; omega) | (simp; omega)))⟩)
  all_goals simp [*]
theorem span_sent (m : Span.Marks) (w : World) : Calls Tryz.prog 46 #[m.v] w fun e w' => e = .returned (.tuple #[(Span.sent m).v, .int .i64 (Span.sent m).gss]) ∧ Below w.heap.size w w' := by
  go_enter Tryz.func46, Tryz.ntmps46
  go_wp2_with ((go_at_call 34; refine (circ_add _ _ _).mono ?_; rintro e w1 ⟨rfl, rfl⟩))
  go_region
  go_wp2
  go_returns
  exact ⟨rfl, by (repeat' (first | (with_reducible exact Below.refl _ _) | (with_reducible refine below_alloc ?_ _) | (with_reducible refine Below.drew ?_) | (with_reducible refine below_drewN ?_ _) | (with_reducible refine Below.setCell ?_ ?_ _) | (with_reducible assumption) | (with_reducible refine below_of ?_ (by assumption)) | omega | (simp only [World.size_alloc, World.size_setCell, World.size_drew, size_drewN] at *; omega) | (simp; omega)))⟩
end Go.Proofs.YtopeaafcepgnhaaGreat
namespace Go.Proofs.YtopeaafcepgnhaaGreat.Span
open Go.Proofs.YtopeaafcepgnhaaGreat
theorem size_long (k : Int) : Head.size k true = 0 ↔ ¬ (0 ≤ k ∧ k ≤ 9) := by
  unfold Head.size Head.known Head.acks Head.more
  simp only [decide_eq_false_iff_not, Bool.true_eq_false, false_and, or_false, if_true, decide_eq_true_eq]
  repeat' split
  all_goals (constructor <;> intro h <;> first | omega | contradiction)
end Go.Proofs.YtopeaafcepgnhaaGreat.Span
namespace Go.Proofs.YtopeaafcepgnhaaGreat
open Go.RowKit Go.ChangeShapes Go.WideShapes
theorem span_valid (m : Span.Marks) (k s a : Int) (w : World) : Calls Tryz.prog 92 #[m.v, .int .i64 k, .int .i64 s, .int .i64 a] w fun e w' => e = .returned (.int .i64 (Span.valid m k s a)) ∧ Below w.heap.size w w' := by
  have HS : Hid (∀ r, (if (Head.size k true == 0) = true then 7 else if Span.numbered m k s = false then 12 else if Head.acks k = true ∧ Span.acks m k a = false then 13 else 0) = r → Span.valid m k s a = r) := fun r h => by rw [← h]; unfold Span.valid; simp only [beq_iff_eq]
  generalize Span.valid m k s a = r at *
  go_enter Tryz.func92, Tryz.ntmps92
  go_wp2_with fail
  refine (head_size _ _ _).mono ?_
  generalize Head.size k true = n at *
  rintro e w1 ⟨rfl, hb⟩; have hz := hb.size; (try simp only [World.size_alloc, World.size_setCell, World.size_drew, size_drewN] at hz); apply own_step (B := w.heap.size) hb; (focus (repeat (first | (with_reducible assumption) | (with_reducible exact own_new _ _ _) | ((with_reducible apply own_new'); focus (first | omega | (simp; done) | (simp; omega))) | (with_reducible apply own_drewN) | (with_reducible apply own_drew) | (with_reducible apply own_alloc) | (with_reducible apply own_setT) | ((with_reducible apply own_set_otherH); focus (first | (simp; done) | (simp; omega)))))); intro hO0; have hk0 := hO0.2.1; have hl0 := hO0.1; have hf0 := hO0.2.2; (try simp only [List.setIfInBounds_toArray, List.set_cons_zero, List.set_cons_succ] at hO0 hk0)
  go_wp2_with fail
  · go_returns
    exact ⟨ret_i (HS.out 7 (by simp [*])).symm, by (repeat' (first | (with_reducible exact Below.refl _ _) | (with_reducible refine below_alloc ?_ _) | (with_reducible refine Below.drew ?_) | (with_reducible refine below_drewN ?_ _) | (with_reducible refine Below.setCell ?_ ?_ _) | (with_reducible assumption) | (with_reducible refine below_of ?_ (by assumption)) | omega | (simp only [World.size_alloc, World.size_setCell, World.size_drew, size_drewN] at *; omega) | (simp; omega)))⟩
  · refine (span_numbered m _ _ _).mono ?_
    generalize Span.numbered m k s = nm at *
    rintro e w1 ⟨rfl, hb⟩; have hz := hb.size; (try simp only [World.size_alloc, World.size_setCell, World.size_drew, size_drewN] at hz); apply own_step (B := w.heap.size) hb; (focus (repeat (first | (with_reducible assumption) | (with_reducible exact own_new _ _ _) | ((with_reducible apply own_new'); focus (first | omega | (simp; done) | (simp; omega))) | (with_reducible apply own_drewN) | (with_reducible apply own_drew) | (with_reducible apply own_alloc) | (with_reducible apply own_setT) | ((with_reducible apply own_set_otherH); focus (first | (simp; done) | (simp; omega)))))); intro hO0; have hk0 := hO0.2.1; have hl0 := hO0.1; have hf0 := hO0.2.2; (try simp only [List.setIfInBounds_toArray, List.set_cons_zero, List.set_cons_succ] at hO0 hk0)
    cases nm
    · go_wp2
      go_returns
      exact ⟨ret_i (HS.out 12 (by simp [*])).symm, by (repeat' (first | (with_reducible exact Below.refl _ _) | (with_reducible refine below_alloc ?_ _) | (with_reducible refine Below.drew ?_) | (with_reducible refine below_drewN ?_ _) | (with_reducible refine Below.setCell ?_ ?_ _) | (with_reducible assumption) | (with_reducible refine below_of ?_ (by assumption)) | omega | (simp only [World.size_alloc, World.size_setCell, World.size_drew, size_drewN] at *; omega) | (simp; omega)))⟩
    · go_wp2_with fail
      refine (head_acks _ _).mono ?_
      generalize Head.acks k = ac at *
      rintro e w1 ⟨rfl, hb⟩; have hz := hb.size; (try simp only [World.size_alloc, World.size_setCell, World.size_drew, size_drewN] at hz); apply own_step (B := w.heap.size) hb; (focus (repeat (first | (with_reducible assumption) | (with_reducible exact own_new _ _ _) | ((with_reducible apply own_new'); focus (first | omega | (simp; done) | (simp; omega))) | (with_reducible apply own_drewN) | (with_reducible apply own_drew) | (with_reducible apply own_alloc) | (with_reducible apply own_setT) | ((with_reducible apply own_set_otherH); focus (first | (simp; done) | (simp; omega)))))); intro hO0; have hk0 := hO0.2.1; have hl0 := hO0.1; have hf0 := hO0.2.2; (try simp only [List.setIfInBounds_toArray, List.set_cons_zero, List.set_cons_succ] at hO0 hk0)
      cases ac
      · go_wp2
        go_returns
        exact ⟨ret_i (HS.out 0 (by simp [*])).symm, by (repeat' (first | (with_reducible exact Below.refl _ _) | (with_reducible refine below_alloc ?_ _) | (with_reducible refine Below.drew ?_) | (with_reducible refine below_drewN ?_ _) | (with_reducible refine Below.setCell ?_ ?_ _) | (with_reducible assumption) | (with_reducible refine below_of ?_ (by assumption)) | omega | (simp only [World.size_alloc, World.size_setCell, World.size_drew, size_drewN] at *; omega) | (simp; omega)))⟩
      · go_wp2_with fail
        refine (span_acks m _ _ _).mono ?_
        generalize Span.acks m k a = ok at *
        rintro e w1 ⟨rfl, hb⟩; have hz := hb.size; (try simp only [World.size_alloc, World.size_setCell, World.size_drew, size_drewN] at hz); apply own_step (B := w.heap.size) hb; (focus (repeat (first | (with_reducible assumption) | (with_reducible exact own_new _ _ _) | ((with_reducible apply own_new'); focus (first | omega | (simp; done) | (simp; omega))) | (with_reducible apply own_drewN) | (with_reducible apply own_drew) | (with_reducible apply own_alloc) | (with_reducible apply own_setT) | ((with_reducible apply own_set_otherH); focus (first | (simp; done) | (simp; omega)))))); intro hO0; have hk0 := hO0.2.1; have hl0 := hO0.1; have hf0 := hO0.2.2; (try simp only [List.setIfInBounds_toArray, List.set_cons_zero, List.set_cons_succ] at hO0 hk0)
        cases ok
        · go_wp2
          go_returns
          exact ⟨ret_i (HS.out 13 (by simp [*])).symm, by (repeat' (first | (with_reducible exact Below.refl _ _) | (with_reducible refine below_alloc ?_ _) | (with_reducible refine Below.drew ?_) | (with_reducible refine below_drewN ?_ _) | (with_reducible refine Below.setCell ?_ ?_ _) | (with_reducible assumption) | (with_reducible refine below_of ?_ (by assumption)) | omega | (simp only [World.size_alloc, World.size_setCell, World.size_drew, size_drewN] at *; omega) | (simp; omega)))⟩
        · go_wp2
          go_returns
          exact ⟨ret_i (HS.out 0 (by simp [*])).symm, by (repeat' (first | (with_reducible exact Below.refl _ _) | (with_reducible refine below_alloc ?_ _) | (with_reducible refine Below.drew ?_) | (with_reducible refine below_drewN ?_ _) | (with_reducible refine Below.setCell ?_ ?_ _) | (with_reducible assumption) | (with_reducible refine below_of ?_ (by assumption)) | omega | (simp only [World.size_alloc, World.size_setCell, World.size_drew, size_drewN] at *; omega) | (simp; omega)))⟩
end Go.Proofs.YtopeaafcepgnhaaGreat
namespace Go.Proofs.YtopeaafcepgnhaaGreat
open Go.RowKit
theorem begin_any (n : Int) (w : World) : Calls Tryz.prog 55 #[.int .i64 n] w fun e w' => e = .returned (.agg #[.int .i64 (min (max n 1) 64), .int .i64 (min (max n 1) 64), .int .i64 0]) ∧ Below w.heap.size w w' := by
  by_cases h1 : n < 1
  · have e1 : min (max n 1) 64 = 1 := by omega
    rw [e1]; clear e1
    go_enter Tryz.func55, Tryz.ntmps55
    go_wp2
    go_returns
    exact ⟨rfl, by go_grown⟩
  · by_cases h2 : 64 < n
    · have e1 : min (max n 1) 64 = 64 := by omega
      rw [e1]; clear e1
      go_enter Tryz.func55, Tryz.ntmps55
      go_wp2
      go_returns
      exact ⟨rfl, by go_grown⟩
    · have e1 : min (max n 1) 64 = n := by omega
      rw [e1]; clear e1
      go_enter Tryz.func55, Tryz.ntmps55
      go_wp2
      go_returns
      exact ⟨rfl, by go_grown⟩
def tick (s : Int × Int × Int) : (Int × Int × Int) × Bool × Bool :=
  if s.1 = 0 ∧ s.2.1 = 0 then (s, false, false)
  else if 0 < wrap64 (s.2.1 - 1) then ((s.1, wrap64 (s.2.1 - 1), s.2.2), false, false)
  else if 6 ≤ s.2.2 then ((0, 0, s.2.2), false, true)
  else ((min (wrap64 (2 * s.1)) 64, min (wrap64 (2 * s.1)) 64, wrap64 (s.2.2 + 1)), true, false)
theorem tick_any (a b c : Int) (w : World) : Calls Tryz.prog 56 #[.agg #[.int .i64 a, .int .i64 b, .int .i64 c]] w fun e w' => e = .returned (.tuple #[.agg #[.int .i64 (tick (a, b, c)).1.1, .int .i64 (tick (a, b, c)).1.2.1, .int .i64 (tick (a, b, c)).1.2.2], .bool (tick (a, b, c)).2.1, .bool (tick (a, b, c)).2.2]) ∧ Below w.heap.size w w' := by
  go_enter Tryz.func56, Tryz.ntmps56
  go_wp2
  all_goals (go_returns; refine ⟨?_, by go_grown⟩)
  all_goals go_light
  all_goals have w0 : wrap64 0 = 0 := by unfold wrap64; decide
  all_goals (simp (disch := omega) [tick, if_pos, if_neg, *])
  all_goals omega
def st : Nat → Int × Int × Int
  | 0 => (8, 8, 0)
  | k + 1 => (tick (st k)).1
end Go.Proofs.YtopeaafcepgnhaaGreat
namespace Go.Proofs.YtopeaafcepgnhaaGreat.Sym
open Go.RowKit
def canSt (r : SV × List Blk) : St := ⟨[(0, some r.1)], r.2⟩
def goCan (n0 : Nat) (r : SV × List Blk) : T (SV × List Blk) := match look ((canSt r).ordC n0 [0]).fr 0 with
  | some s => .leaf (s, ((canSt r).ordC n0 [0]).H)
  | none => .stuck 132
def canT (n0 : Nat) (t : T (SV × List Blk)) : T (SV × List Blk) := t.bind (goCan n0)
theorem canT_ok {P : Program} {C : Cfg} (hC : CfgOk P C) (hP : P.follows .mixedOrders = true) {L : Nat → St → Option (T (Ex × St))} {f : FuncId} {fn : Func} (hf : P.funcs[f]? = some fn) (hb : fn.body.isSome = true) (hlex : lexAll C (fn.body.getD .skip) = true)
    (hL : ∀ id body, (id, body) ∈ loopsOf (fn.body.getD .skip) → ∀ st t, L id st = some t → RunOk P fn.ntmps (.block id (.loop body)) st t)
    {ss : List SV} {H : List Blk} {t' : T (SV × List Blk)} (ht : canT H.length (runF P C L fn (fn.body.getD .skip) ss H) = t') {bs : List Nat} {B : List Value} {w : World} {vs : List Value} (hm : Mem w bs H B w) (hvs : SV.tos B ss = some vs) {Qs : SV × List Blk → Prop} (hq : t'.ok Qs) :
    Calls P f vs.toArray w fun e w' => ∃ s H' B' x, Qs (s, H') ∧ B <+: B' ∧ e = .returned x ∧ s.to B' = some x ∧ Mem w bs H' B' w' := by
  subst ht
  refine (inl_ok hC hP hf hb hlex hL ss H _ rfl bs B w vs hm hvs _ (T.ok_bind hq)).mono ?_
  rintro e w' ⟨s0, H0, B0, x, hQ, hp, rfl, hx, hm'⟩
  have hsl : Slots 1 (canSt (s0, H0)).fr B0 ⟨#[x], []⟩ := by
    refine ⟨rfl, rfl, fun t s e => ?_⟩
    simp only [canSt, look] at e
    cases hb : Nat.beq 0 t
    · rw [hb] at e; cases e
    · rw [hb, cond_true, Option.some.injEq] at e
      have := Nat.eq_of_beq_eq_true hb
      subst this
      subst e
      exact hx
  have hl : H.length = B.length := hm.sat.len.symm
  have hle : H.length ≤ B0.length := by rw [hl]; exact hp.length_le
  obtain ⟨B', h1, h2, h3⟩ := ordC_ok (n0 := H.length) (M := [0]) hsl hm' hle
  have ht : B0.take H.length = B := by rw [hl]; exact (List.prefix_iff_eq_take.1 hp).symm
  rw [ht] at h1
  unfold goCan at hQ
  split at hQ
  · rename_i s hs
    exact ⟨s, _, B', x, hQ, h1, rfl, h2.slot 0 s hs, h3⟩
  · exact hQ.elim
end Go.Proofs.YtopeaafcepgnhaaGreat.Sym
namespace Go.Proofs.YtopeaafcepgnhaaGreat
open Go.RowKit Sym Go.ChangeShapes Go.WideShapes Go.ChangeMaps
def shortN (n : Int) : Int := n % 16777216
def longN (near s : Int) : Int := Circ.add near (if 8388608 < (shortN s - shortN near) % 16777216 then (shortN s - shortN near) % 16777216 - 16777216 else (shortN s - shortN near) % 16777216)
theorem and_short (n : Int) : bits .and .i64 n 16777215 = n % 16777216 := by
  show IntKind.i64.wrap ((BitVec.ofInt 64 n &&& BitVec.ofInt 64 16777215).toNat : Int) = _
  rw [BitVec.toNat_and, show (BitVec.ofInt 64 16777215).toNat = 2 ^ 24 - 1 from by decide, Nat.and_two_pow_sub_one_eq_mod, BitVec.toNat_ofInt, IntKind.wrap_i64]
  omega
def tCOf : List Value → Option (List Prop × Value) | [.int .i64 n] => some ([], .int .i64 (Circ.of n)) | _ => none
def tCAdd : List Value → Option (List Prop × Value) | [.int .i64 a, .int .i64 n] => some ([], .int .i64 (Circ.add a n)) | _ => none
def tCWithin : List Value → Option (List Prop × Value) | [.int .i64 n, .int .i64 a, .int .i64 b] => some ([], .bool (Circ.within n a b)) | _ => none
def tShort : List Value → Option (List Prop × Value) | [.int .i64 n] => some ([], .int .i64 (shortN n)) | _ => none
def tLong : List Value → Option (List Prop × Value) | [.int .i64 a, .int .i64 n] => some ([], .int .i64 (longN a n)) | _ => none
theorem stretch_Short (n : Int) (w : World) : Calls Tryz.prog 96 #[.int .i64 n] w fun e w' => e = .returned (.int .i64 (shortN n)) ∧ w = w' := by
  go_enter Tryz.func96, Tryz.ntmps96
  go_wp2
  go_ret
  refine ⟨?_, rfl⟩
  rw [and_short]
  rfl
theorem short_lo (n : Int) : 0 ≤ shortN n := by unfold shortN; omega
theorem short_hi (n : Int) : shortN n < 16777216 := by unfold shortN; omega
theorem stretch_Long (a n : Int) (w : World) : Calls Tryz.prog 90 #[.int .i64 a, .int .i64 n] w fun e w' => e = .returned (.int .i64 (longN a n)) ∧ Below w.heap.size w w' := by
  go_enter Tryz.func90, Tryz.ntmps90
  go_wp2_with (first | (go_at_call 96; refine (stretch_Short _ _).mono ?_; rintro e w1 ⟨rfl, rfl⟩) | (go_at_call 34; refine (circ_add _ _ _).mono ?_; rintro e w1 ⟨rfl, rfl⟩))
  all_goals
    rename_i hd
    go_ret
    refine ⟨?_, Below.refl _ _⟩
    have h1 := short_lo n
    have h2 := short_hi n
    have h3 := short_lo a
    have h4 := short_hi a
    have e1 : wrap64 (shortN n - shortN a) = shortN n - shortN a := by unfold wrap64; omega
    rw [e1] at hd ⊢
    have h5 := short_lo (shortN n - shortN a)
    have h6 := short_hi (shortN n - shortN a)
    unfold longN
    have e2 : (shortN n - shortN a) % 16777216 = shortN (shortN n - shortN a) := rfl
    rw [e2]
  · rw [if_pos hd, show wrap64 (shortN (shortN n - shortN a) - 16777216) = shortN (shortN n - shortN a) - 16777216 by unfold wrap64; omega]; rfl
  · rw [if_neg (by omega)]; rfl
def tBegin : List Value → Option (List Prop × Value) | [.int .i64 a, .int .i64 b, .int .i64 c, .int .i64 d] => some ([], .agg #[.int .i64 (Circ.of a), .int .i64 (Circ.of c), .int .i64 (Circ.of b), .int .i64 (Circ.of d), .int .i64 (Circ.of a)]) | _ => none
def tValid : List Value → Option (List Prop × Value) | [.agg ⟨[.int .i64 a, .int .i64 b, .int .i64 c, .int .i64 d, .int .i64 e]⟩, .int .i64 k, .int .i64 s, .int .i64 x] => some ([], .int .i64 (Span.valid ⟨a, b, c, d, e⟩ k s x)) | _ => none
def garOf (k a g : Int) : Int := if Head.acks k = true then Circ.later g a else g
def tCame : List Value → Option (List Prop × Value) | [.agg ⟨[.int .i64 a, .int .i64 b, .int .i64 c, .int .i64 d, .int .i64 e]⟩, .int .i64 k, .int .i64 s, .int .i64 x] => some ([], .agg #[.int .i64 a, .int .i64 b, .int .i64 c, .int .i64 (Circ.later d s), .int .i64 (garOf k x e)]) | _ => none
def tSent : List Value → Option (List Prop × Value) | [.agg ⟨[.int .i64 a, .int .i64 b, .int .i64 c, .int .i64 d, .int .i64 e]⟩] => some ([], .tuple #[.agg #[.int .i64 a, .int .i64 b, .int .i64 (Circ.add c 1), .int .i64 d, .int .i64 e], .int .i64 (Circ.add c 1)]) | _ => none
def agWait (a b c : Int) : Int := (tick (a, b, c)).1.1
def agLeft (a b c : Int) : Int := (tick (a, b, c)).1.2.1
def agTries (a b c : Int) : Int := (tick (a, b, c)).1.2.2
def agSay (a b c : Int) : Bool := (tick (a, b, c)).2.1
def agOver (a b c : Int) : Bool := (tick (a, b, c)).2.2
def tBoff : List Value → Option (List Prop × Value) | [.int .i64 n] => some ([n = 8], .agg #[.int .i64 8, .int .i64 8, .int .i64 0]) | _ => none
def tTick : List Value → Option (List Prop × Value) | [.agg ⟨[.int .i64 a, .int .i64 b, .int .i64 c]⟩] => some ([], .tuple #[.agg #[.int .i64 (agWait a b c), .int .i64 (agLeft a b c), .int .i64 (agTries a b c)], .bool (agSay a b c), .bool (agOver a b c)]) | _ => none
theorem boff_tab (n : Int) (h : n = 8) (w : World) : Calls Tryz.prog 55 #[.int .i64 n] w fun e w' => e = .returned (.agg #[.int .i64 8, .int .i64 8, .int .i64 0]) ∧ Below w.heap.size w w' := by
  subst h
  exact begin_any 8 w
def SCn0  : Tab := addS 70 tCOf <| addS 34 tCAdd <| addS 89 tCWithin <| addS 91 tHeadAcks <| addS 96 tShort <| addS 90 tLong <| addS 30 tBegin <| addS 92 tValid <| addS 64 tCame <| addS 46 tSent <| addS 55 tBoff <| addS 56 tTick <| noS
theorem SCn0_ok : TabOk Tryz.prog (SCn0) := by
  refine addS_ok (addS_ok (addS_ok (addS_ok (addS_ok (addS_ok (addS_ok (addS_ok (addS_ok (addS_ok (addS_ok (addS_ok (noS_ok) (by kernel_rfl) ?_) (by kernel_rfl) ?_) (by kernel_rfl) ?_) (by kernel_rfl) ?_) (by kernel_rfl) ?_) (by kernel_rfl) ?_) (by kernel_rfl) ?_) (by kernel_rfl) ?_) (by kernel_rfl) ?_) (by kernel_rfl) ?_) (by kernel_rfl) ?_) (by kernel_rfl) ?_
  · (intro xs p v h hp w; unfold tTick at h; (split at h) <;> first | (cases h; done) | (simp only [Option.some.injEq, Prod.mk.injEq] at h; obtain ⟨rfl, rfl⟩ := h; exact tick_any _ _ _ w))
  · (intro xs p v h hp w; unfold tBoff at h; (split at h) <;> first | (cases h; done) | (simp only [Option.some.injEq, Prod.mk.injEq] at h; obtain ⟨rfl, rfl⟩ := h; exact boff_tab _ (hp _ (List.mem_cons_self ..)) w))
  · (intro xs p v h hp w; unfold tSent at h; (split at h) <;> first | (cases h; done) | (simp only [Option.some.injEq, Prod.mk.injEq] at h; obtain ⟨rfl, rfl⟩ := h; exact span_sent ⟨_, _, _, _, _⟩ w))
  · (intro xs p v h hp w; unfold tCame at h; (split at h) <;> first | (cases h; done) | (simp only [Option.some.injEq, Prod.mk.injEq] at h; obtain ⟨rfl, rfl⟩ := h; exact span_came ⟨_, _, _, _, _⟩ _ _ _ w))
  · (intro xs p v h hp w; unfold tValid at h; (split at h) <;> first | (cases h; done) | (simp only [Option.some.injEq, Prod.mk.injEq] at h; obtain ⟨rfl, rfl⟩ := h; exact span_valid ⟨_, _, _, _, _⟩ _ _ _ w))
  · (intro xs p v h hp w; unfold tBegin at h; (split at h) <;> first | (cases h; done) | (simp only [Option.some.injEq, Prod.mk.injEq] at h; obtain ⟨rfl, rfl⟩ := h; exact span_begin _ _ _ _ w))
  · (intro xs p v h hp w; unfold tLong at h; (split at h) <;> first | (cases h; done) | (simp only [Option.some.injEq, Prod.mk.injEq] at h; obtain ⟨rfl, rfl⟩ := h; exact stretch_Long _ _ w))
  · (intro xs p v h hp w; unfold tShort at h; (split at h) <;> first | (cases h; done) | (simp only [Option.some.injEq, Prod.mk.injEq] at h; obtain ⟨rfl, rfl⟩ := h; exact of_same (stretch_Short _ w)))
  · (intro xs p v h hp w; unfold tHeadAcks at h; (split at h) <;> first | (cases h; done) | (simp only [Option.some.injEq, Prod.mk.injEq] at h; obtain ⟨rfl, rfl⟩ := h; exact head_acks _ w))
  · (intro xs p v h hp w; unfold tCWithin at h; (split at h) <;> first | (cases h; done) | (simp only [Option.some.injEq, Prod.mk.injEq] at h; obtain ⟨rfl, rfl⟩ := h; exact of_same (circ_within _ _ _ w)))
  · (intro xs p v h hp w; unfold tCAdd at h; (split at h) <;> first | (cases h; done) | (simp only [Option.some.injEq, Prod.mk.injEq] at h; obtain ⟨rfl, rfl⟩ := h; exact of_same (circ_add _ _ w)))
  · (intro xs p v h hp w; unfold tCOf at h; (split at h) <;> first | (cases h; done) | (simp only [Option.some.injEq, Prod.mk.injEq] at h; obtain ⟨rfl, rfl⟩ := h; exact of_same (circ_of _ w)))
set_option maxRecDepth 100000 in
set_option maxHeartbeats 4000000 in
theorem clone_some (n cap : Nat) (p : Addr) (f : Nat → Nat → Value) (w : World) (hc : ∀ i j, i < n → j < 2 → w.cell? (p.add (i * 2 + j)) = some (f i j)) (hone : allOneP (rowCells n 2 f)) (hn : n * 24 ≤ 140737488355328) :
    Calls Tryz.prog 33 #[.slice (some p) n cap] w fun e w' => ∃ v, e = .returned v ∧ w'.ownsRow 0 64 2 v n (rowCells n 2 f) ∧ Below w.heap.size w w' ∧ ∀ b, blockOf v = some b → w.heap.size ≤ b := by
  have qT : ∀ (w : World) (a : Option Addr) (n c n' c' : Nat), (binOp .eql 23 (.slice a n c) (.slice none n' c')).run Tryz.prog w = .ok (.bool a.isNone) w := fun w a n c n' c' => Lib.run_eql_slice_nil w _ _ a n c n' c' Tryz.underlying23
  obtain ⟨i, hi, hz, hs, hy⟩ := info_parts opt_info
  have hown : (w.alloc (.cells #[] 64)).ownsRow 0 64 i.size (.slice (some ⟨w.heap.size, 0, none⟩) 0 0) 0 [] := by
    refine ⟨by simp, .inr ⟨w.heap.size, 0, #[], rfl, Nat.zero_le _, heap_alloc_new w _, Nat.zero_le _, Nat.zero_le _, by simp, by simp⟩⟩
  have hb0 : Below w.heap.size w (w.alloc (.cells #[] 64)) := (Below.refl _ w).alloc (Nat.le_refl _) _
  obtain ⟨v', w', hr, h1, h2, h3⟩ := append_core (P := Tryz.prog) (w := w.alloc (.cells #[] 64)) (t := 23) (ty := 23) Tryz.underlying23 hi hz (by rw [hs]; rfl) (by rw [hs]; decide) (xb := .slice (some p) n cap) (n := 0) (m := n) (xs := []) (ys := rowCells n 2 f)
    (by omega) (by rw [hy]; omega) hown (.inl ⟨by rw [rowCells_length, hs], hone, .inr ⟨p, cap, rfl, fun j u hj => by
      obtain ⟨g1, g2, g3⟩ := rowCells_get _ _ _ hj
      have hcj := hc _ _ g1 g2
      rw [show j / 2 * 2 + j % 2 = j by omega] at hcj
      have hlt := cell_lt hcj
      rw [g3, ← hcj]
      exact World.cell?_of_block (hb0.block _ hlt)⟩⟩)
  rw [hs] at h1
  rw [Nat.zero_add, List.nil_append] at h1
  go_enter Tryz.func33, Tryz.ntmps33
  go_wp2_with (at_builtin; refine Lib.wpList_append_run _ rfl _ _ _ _ rfl _ _ rfl rfl _ _ hr ?_)
  go_ret
  refine ⟨_, rfl, h1, ?_, ?_⟩
  · refine ⟨h2.os.trans hb0.os, h2.tape.trans hb0.tape, h2.output.trans hb0.output, Nat.le_trans hb0.size h2.size, fun k hk => ?_⟩
    have hk' : k < (w.alloc (.cells #[] 64)).heap.size := Nat.lt_of_lt_of_le hk hb0.size
    refine (h2.block k hk' fun e => ?_).trans (hb0.block k hk)
    simp only [blockOf, Option.some.injEq] at e
    omega
  · intro b hb
    rcases h3 b hb with g | g
    · simp only [blockOf, Option.some.injEq] at g; omega
    · simp only [World.size_alloc] at g; omega
theorem clone_none (w : World) : Calls Tryz.prog 33 #[.slice none 0 0] w fun e w' => e = .returned (.slice none 0 0) ∧ w = w' := by
  have qT : ∀ (w : World) (a : Option Addr) (n c n' c' : Nat), (binOp .eql 23 (.slice a n c) (.slice none n' c')).run Tryz.prog w = .ok (.bool a.isNone) w := fun w a n c n' c' => Lib.run_eql_slice_nil w _ _ a n c n' c' Tryz.underlying23
  go_enter Tryz.func33, Tryz.ntmps33
  go_wp2
  go_ret
  exact ⟨rfl, rfl⟩
theorem clone_nil (n c : Nat) (w : World) : Calls Tryz.prog 33 #[.slice none n c] w fun e w' => e = .returned (.slice none 0 0) ∧ w = w' := by
  have qT : ∀ (w : World) (a : Option Addr) (n c n' c' : Nat), (binOp .eql 23 (.slice a n c) (.slice none n' c')).run Tryz.prog w = .ok (.bool a.isNone) w := fun w a n c n' c' => Lib.run_eql_slice_nil w _ _ a n c n' c' Tryz.underlying23
  go_enter Tryz.func33, Tryz.ntmps33
  go_wp2
  go_ret
  exact ⟨rfl, rfl⟩
def fClone : List SV → List Blk → Option (T (SV × List Blk))
  | [.ref 0], [.row n 2 f] => some (.need (n * 24 ≤ 140737488355328) (.need (allOneP (rowCells n 2 f)) (.leaf (.ref 1, [.row n 2 f, .vec false 64 2 n (rowCells n 2 f)]))))
  | [s], [] => bif isNilS (some s) then some (.leaf (.c (.slice none 0 0), [])) else none
  | _, _ => none
theorem fClone_ok : EntryOk Tryz.prog 33 fClone := by
  intro ss H t h bs B w vs hm hv Qs hq
  unfold fClone at h
  split at h
  · rename_i n f
    simp only [Option.some.injEq] at h
    subst h
    obtain ⟨hn, hone, hq⟩ := hq
    obtain ⟨x0, r0, e0, v0, rfl⟩ := tos_cons hv
    obtain rfl := tos_nil v0
    simp only [SV.to] at e0
    obtain ⟨p, cap, g1, h1, h2, h3⟩ := hm.row_at (k := 0) rfl
    rw [g1, Option.some.injEq] at e0
    subst e0
    cases p with
    | none =>
      have hn0 : n = 0 := by
        rcases Nat.eq_zero_or_pos n with e | e
        · exact e
        · obtain ⟨a, ha, -⟩ := h3 0 0 e (by decide); cases ha
      subst hn0
      refine (clone_nil _ _ w).mono ?_
      rintro e w' ⟨rfl, rfl⟩
      refine ⟨_, _, B ++ [.slice none 0 0], _, hq, List.prefix_append _ _, rfl, ?_, ?_⟩
      · have := ref_to hm.sat.len (Value.slice none 0 0)
        simpa using this
      · exact hm.add (y := .vec false 64 2 0 (rowCells 0 2 f)) (u := .slice none 0 0) ⟨rfl, rfl, rfl, Nat.le_refl _, fun _ _ _ => rfl⟩ (fun b hb => by cases hb) (.inl ⟨rfl, .inl ⟨rfl, rfl⟩⟩)
    | some a =>
      refine (clone_some n cap a f w (fun i j hi hj => ?_) hone hn).mono ?_
      · obtain ⟨a', ha, hc⟩ := h3 i j hi hj
        simp only [Option.some.injEq] at ha
        subst ha; exact hc
      · rintro e w' ⟨v, rfl, ho, hb, hf⟩
        refine ⟨_, _, B ++ [v], v, hq, List.prefix_append _ _, rfl, ?_, hm.add (below_grown hb) hf (.inl ho)⟩
        have := ref_to hm.sat.len v
        simpa using this
  · rename_i s
    cases hb : isNilS (some s)
    · rw [hb] at h; cases h
    · rw [hb, cond_true, Option.some.injEq] at h
      subst h
      obtain ⟨s', hs', hnil⟩ := nil_to hb
      simp only [Option.some.injEq] at hs'
      subst hs'
      obtain ⟨x0, r0, e0, v0, rfl⟩ := tos_cons hv
      obtain rfl := tos_nil v0
      rw [hnil, Option.some.injEq] at e0
      subst e0
      refine (clone_none w).mono ?_
      rintro e w' ⟨rfl, rfl⟩
      exact ⟨_, _, B, _, hq, List.prefix_refl _, rfl, rfl, hm⟩
  · cases h
end Go.Proofs.YtopeaafcepgnhaaGreat
namespace Go.Proofs.YtopeaafcepgnhaaGreat
open Go.RowKit Sym
theorem t_need {α : Type} {p : Prop} {t : T α} {Q : α → Prop} (h : p) (ht : t.ok Q) : (T.need p t).ok Q := ⟨h, ht⟩
theorem t_ite {α : Type} {b : Bool} {t e : T α} {Q : α → Prop} (h : b = true → t.ok Q) (he : b = false → e.ok Q) : (T.ite b t e).ok Q := ⟨h, he⟩
theorem t_leaf {α : Type} {a : α} {Q : α → Prop} (h : Q a) : (T.leaf a).ok Q := h
end Go.Proofs.YtopeaafcepgnhaaGreat
namespace Go.Proofs.YtopeaafcepgnhaaGreat
open Go.RowKit Sym Go.ChangeShapes Go.WideShapes Go.ChangeMaps
def tCFar : List Value → Option (List Prop × Value) | [.int .i64 a, .int .i64 b] => some ([], .int .i64 (Circ.far a b)) | _ => none
def tCLess : List Value → Option (List Prop × Value) | [.int .i64 a, .int .i64 b] => some ([], .bool (Circ.less a b)) | _ => none
def tCLater : List Value → Option (List Prop × Value) | [.int .i64 a, .int .i64 b] => some ([], .int .i64 (Circ.later a b)) | _ => none
def SCe00  : Tab := addS 20 tCOf <| addS 19 tCAdd <| noS
theorem SCe00_ok : TabOk Tryz.prog (SCe00) := by
  refine addS_ok (addS_ok (noS_ok) (by kernel_rfl) ?_) (by kernel_rfl) ?_
  · (intro xs p v h hp w; unfold tCAdd at h; (split at h) <;> first | (cases h; done) | (simp only [Option.some.injEq, Prod.mk.injEq] at h; obtain ⟨rfl, rfl⟩ := h; exact of_same (ref02_add _ _ w)))
  · (intro xs p v h hp w; unfold tCOf at h; (split at h) <;> first | (cases h; done) | (simp only [Option.some.injEq, Prod.mk.injEq] at h; obtain ⟨rfl, rfl⟩ := h; exact of_same (ref02_of _ w)))
set_option maxRecDepth 100000 in
theorem many02_run (a b : Int) : runV Tryz.prog (onlyS Tryz.prog SCe00) noL Tryz.f116 [.int .i64 a, .int .i64 b] = .ite (decide (Circ.of b < Circ.of a)) (.leaf (Value.int IntKind.i64 (IntKind.i64.wrap (IntKind.i64.wrap (IntKind.i64.wrap (Circ.of b + (281474976710656 : Int)) - Circ.of a) + (1 : Int))))) (.leaf (Value.int IntKind.i64 (IntKind.i64.wrap (IntKind.i64.wrap (Circ.of b - Circ.of a) + (1 : Int))))) := by kernel_rfl
theorem ref02_many (a b : Int) (w : World) : Calls Tryz.prog 116 #[.int .i64 a, .int .i64 b] w fun e w' => e = .returned (.int .i64 (Circ.many a b)) ∧ Below w.heap.size w w' := by
  refine calls_runV (onlyS_ok SCe00_ok) follows Tryz.func116 (by kernel_rfl) (by kernel_rfl) noL_ok (many02_run a b) ?_ w
  have h1 := Circ.of_lo a
  have h2 := Circ.of_hi a
  have h3 := Circ.of_lo b
  have h4 := Circ.of_hi b
  rw [← Circ.many_eq]
  generalize Circ.of a = x at *
  generalize Circ.of b = y at *
  have e1 : IntKind.i64.wrap (y + 281474976710656) = y + 281474976710656 := w64 _ (by omega) (by omega)
  have e2 : IntKind.i64.wrap (y - x) = y - x := w64 _ (by omega) (by omega)
  have e3 : IntKind.i64.wrap (y - x + 1) = y - x + 1 := w64 _ (by omega) (by omega)
  have e4 : IntKind.i64.wrap (y + 281474976710656 - x) = y + 281474976710656 - x := w64 _ (by omega) (by omega)
  have e5 : IntKind.i64.wrap (y + 281474976710656 - x + 1) = y + 281474976710656 - x + 1 := w64 _ (by omega) (by omega)
  by_cases h : y < x
  · simp [T.ok, h, e1, e4, e5]
  · simp [T.ok, h, e2, e3]
def tCMany : List Value → Option (List Prop × Value) | [.int .i64 a, .int .i64 b] => some ([], .int .i64 (Circ.many a b)) | _ => none
def SCe01  : Tab := addS 116 tCMany <| SCe00
theorem SCe01_ok : TabOk Tryz.prog (SCe01) := by
  refine addS_ok (SCe00_ok) (by kernel_rfl) ?_
  · (intro xs p v h hp w; unfold tCMany at h; (split at h) <;> first | (cases h; done) | (simp only [Option.some.injEq, Prod.mk.injEq] at h; obtain ⟨rfl, rfl⟩ := h; exact ref02_many _ _ w))
set_option maxRecDepth 100000 in
theorem within02_run (n a b : Int) : runV Tryz.prog (onlyS Tryz.prog SCe01) noL Tryz.f100 [.int .i64 n, .int .i64 a, .int .i64 b] = .leaf (Value.bool (decide (Circ.many a n ≤ Circ.many a b))) := by kernel_rfl
theorem ref02_within (n a b : Int) (w : World) : Calls Tryz.prog 100 #[.int .i64 n, .int .i64 a, .int .i64 b] w fun e w' => e = .returned (.bool (Circ.within n a b)) ∧ Below w.heap.size w w' := by
  refine calls_runV (onlyS_ok SCe01_ok) follows Tryz.func100 (by kernel_rfl) (by kernel_rfl) noL_ok (within02_run n a b) ?_ w
  show Value.bool (decide (Circ.many a n ≤ Circ.many a b)) = _
  rw [Circ.within_many]
def SCe0  : Tab := addS 20 tCOf <| addS 19 tCAdd <| addS 100 tCWithin <| addS 101 tCFar <| addS 103 tCLess <| addS 104 tCLater <| addS 50 tHeadAcks <| noS
theorem SCe0_ok : TabOk Tryz.prog (SCe0) := by
  refine addS_ok (addS_ok (addS_ok (addS_ok (addS_ok (addS_ok (addS_ok (noS_ok) (by kernel_rfl) ?_) (by kernel_rfl) ?_) (by kernel_rfl) ?_) (by kernel_rfl) ?_) (by kernel_rfl) ?_) (by kernel_rfl) ?_) (by kernel_rfl) ?_
  · (intro xs p v h hp w; unfold tHeadAcks at h; (split at h) <;> first | (cases h; done) | (simp only [Option.some.injEq, Prod.mk.injEq] at h; obtain ⟨rfl, rfl⟩ := h; exact of_same (ref09_acks _ w)))
  · (intro xs p v h hp w; unfold tCLater at h; (split at h) <;> first | (cases h; done) | (simp only [Option.some.injEq, Prod.mk.injEq] at h; obtain ⟨rfl, rfl⟩ := h; exact of_same (ref02_later _ _ w)))
  · (intro xs p v h hp w; unfold tCLess at h; (split at h) <;> first | (cases h; done) | (simp only [Option.some.injEq, Prod.mk.injEq] at h; obtain ⟨rfl, rfl⟩ := h; exact of_same (ref02_less _ _ w)))
  · (intro xs p v h hp w; unfold tCFar at h; (split at h) <;> first | (cases h; done) | (simp only [Option.some.injEq, Prod.mk.injEq] at h; obtain ⟨rfl, rfl⟩ := h; exact of_same (ref02_far _ _ w)))
  · (intro xs p v h hp w; unfold tCWithin at h; (split at h) <;> first | (cases h; done) | (simp only [Option.some.injEq, Prod.mk.injEq] at h; obtain ⟨rfl, rfl⟩ := h; exact ref02_within _ _ _ w))
  · (intro xs p v h hp w; unfold tCAdd at h; (split at h) <;> first | (cases h; done) | (simp only [Option.some.injEq, Prod.mk.injEq] at h; obtain ⟨rfl, rfl⟩ := h; exact of_same (ref02_add _ _ w)))
  · (intro xs p v h hp w; unfold tCOf at h; (split at h) <;> first | (cases h; done) | (simp only [Option.some.injEq, Prod.mk.injEq] at h; obtain ⟨rfl, rfl⟩ := h; exact of_same (ref02_of _ w)))
def tLim : List Value → Option (List Prop × Value) | [.agg ⟨[.int .i64 a, .int .i64 b, .int .i64 c, .int .i64 d, .int .i64 e]⟩] => some ([], .agg #[.int .i64 (Span.swl ⟨a, b, c, d, e⟩), .int .i64 (Span.swh ⟨a, b, c, d, e⟩), .int .i64 (Span.awl ⟨a, b, c, d, e⟩), .int .i64 (Span.awh ⟨a, b, c, d, e⟩)]) | _ => none
set_option maxRecDepth 100000 in
theorem lim14_run (a b c d e : Int) : runV Tryz.prog (onlyS Tryz.prog SCe0) noL Tryz.f102 [.agg #[.int .i64 a, .int .i64 b, .int .i64 c, .int .i64 d, .int .i64 e]] = .leaf (Value.agg (Array.mk [Value.int IntKind.i64 (Circ.later (Circ.of (IntKind.i64.wrap (IntKind.i64.wrap (Circ.of d + (1 : Int)) - (16 : Int)))) b), Value.int IntKind.i64 (Circ.of (IntKind.i64.wrap (Circ.of d + (48 : Int)))), Value.int IntKind.i64 (Circ.later (Circ.of (IntKind.i64.wrap (IntKind.i64.wrap (Circ.of c + (1 : Int)) - (64 : Int)))) a), Value.int IntKind.i64 (Circ.of c)])) := by kernel_rfl
theorem of_sub (g : Int) (k : Int) (h0 : -1000 ≤ k) (h1 : k ≤ 1000) : Circ.of (IntKind.i64.wrap (Circ.of g + k)) = Circ.add g k := by
  have a := Circ.of_lo g
  have b := Circ.of_hi g
  rw [w64 _ (by omega) (by omega)]
  unfold Circ.add Circ.of at *
  omega
theorem ref14_limits (a b c d e : Int) (w : World) : Calls Tryz.prog 102 #[.agg #[.int .i64 a, .int .i64 b, .int .i64 c, .int .i64 d, .int .i64 e]] w fun x w' => x = .returned (.agg #[.int .i64 (Span.swl ⟨a, b, c, d, e⟩), .int .i64 (Span.swh ⟨a, b, c, d, e⟩), .int .i64 (Span.awl ⟨a, b, c, d, e⟩), .int .i64 (Span.awh ⟨a, b, c, d, e⟩)]) ∧ Below w.heap.size w w' := by
  refine calls_runV (onlyS_ok SCe0_ok) follows Tryz.func102 (by kernel_rfl) (by kernel_rfl) noL_ok (lim14_run a b c d e) ?_ w
  have a1 := Circ.of_lo d
  have a2 := Circ.of_hi d
  have a3 := Circ.of_lo c
  have a4 := Circ.of_hi c
  have e1 : Circ.of (IntKind.i64.wrap (IntKind.i64.wrap (Circ.of d + 1) - 16)) = Circ.add d (-15) := by
    rw [w64 (Circ.of d + 1) (by omega) (by omega), w64 _ (by omega) (by omega)]
    unfold Circ.add Circ.of at *; omega
  have e2 : Circ.of (IntKind.i64.wrap (Circ.of d + 48)) = Circ.add d 48 := of_sub d 48 (by decide) (by decide)
  have e3 : Circ.of (IntKind.i64.wrap (IntKind.i64.wrap (Circ.of c + 1) - 64)) = Circ.add c (-63) := by
    rw [w64 (Circ.of c + 1) (by omega) (by omega), w64 _ (by omega) (by omega)]
    unfold Circ.add Circ.of at *; omega
  rw [e1, e2, e3]
  rfl
def SCe1  : Tab := addS 102 tLim <| SCe0
theorem SCe1_ok : TabOk Tryz.prog (SCe1) := by
  refine addS_ok (SCe0_ok) (by kernel_rfl) ?_
  · (intro xs p v h hp w; unfold tLim at h; (split at h) <;> first | (cases h; done) | (simp only [Option.some.injEq, Prod.mk.injEq] at h; obtain ⟨rfl, rfl⟩ := h; exact ref14_limits _ _ _ _ _ w))
set_option maxRecDepth 100000 in
theorem val14_run (a b c d e k s x : Int) : runV Tryz.prog (onlyS Tryz.prog SCe1) noL Tryz.f78 [.agg #[.int .i64 a, .int .i64 b, .int .i64 c, .int .i64 d, .int .i64 e], .int .i64 k, .int .i64 s, .int .i64 x] = .ite (decide (k < (0 : Int))) (.leaf (Value.int IntKind.i64 7)) (.ite (decide (k > (9 : Int))) (.leaf (Value.int IntKind.i64 7)) (.ite (decide (k ≥ (5 : Int))) (.need ((0 : Int) ≤ (0 : Int) ∧ (0 : Int) < (↑4 : Int)) (.need ((0 : Int) ≤ (1 : Int) ∧ (1 : Int) < (↑4 : Int)) (.ite (decide (k ≥ (8 : Int))) (.need ((0 : Int) ≤ (0 : Int) ∧ (0 : Int) < (↑4 : Int)) (.ite (decide (k ≤ (7 : Int))) (.need ((0 : Int) ≤ (1 : Int) ∧ (1 : Int) < (↑4 : Int)) (.ite (!Circ.within s (Circ.of (IntKind.i64.wrap (Circ.of d + (1 : Int)))) (Span.swh (Span.Marks.mk a b c d e))) (.leaf (Value.int IntKind.i64 12)) (.ite (decide (k ≤ (7 : Int))) (.need ((0 : Int) ≤ (3 : Int) ∧ (3 : Int) < (↑4 : Int)) (.ite (!Circ.within x e (Span.awh (Span.Marks.mk a b c d e))) (.leaf (Value.int IntKind.i64 13)) (.ite (!decide (k ≤ (7 : Int))) (.ite (Head.acks k) (.need ((0 : Int) ≤ (2 : Int) ∧ (2 : Int) < (↑4 : Int)) (.need ((0 : Int) ≤ (3 : Int) ∧ (3 : Int) < (↑4 : Int)) (.ite (!Circ.within x (Span.awl (Span.Marks.mk a b c d e)) (Span.awh (Span.Marks.mk a b c d e))) (.leaf (Value.int IntKind.i64 13)) (.leaf (Value.int IntKind.i64 0))))) (.leaf (Value.int IntKind.i64 0))) (.leaf (Value.int IntKind.i64 0))))) (.ite (!decide (k ≤ (7 : Int))) (.ite (Head.acks k) (.need ((0 : Int) ≤ (2 : Int) ∧ (2 : Int) < (↑4 : Int)) (.need ((0 : Int) ≤ (3 : Int) ∧ (3 : Int) < (↑4 : Int)) (.ite (!Circ.within x (Span.awl (Span.Marks.mk a b c d e)) (Span.awh (Span.Marks.mk a b c d e))) (.leaf (Value.int IntKind.i64 13)) (.leaf (Value.int IntKind.i64 0))))) (.leaf (Value.int IntKind.i64 0))) (.leaf (Value.int IntKind.i64 0)))))) (.ite (!!Circ.less s (Span.swl (Span.Marks.mk a b c d e))) (.leaf (Value.int IntKind.i64 12)) (.ite (decide (k ≤ (7 : Int))) (.need ((0 : Int) ≤ (3 : Int) ∧ (3 : Int) < (↑4 : Int)) (.ite (!Circ.within x e (Span.awh (Span.Marks.mk a b c d e))) (.leaf (Value.int IntKind.i64 13)) (.ite (!decide (k ≤ (7 : Int))) (.ite (Head.acks k) (.need ((0 : Int) ≤ (2 : Int) ∧ (2 : Int) < (↑4 : Int)) (.need ((0 : Int) ≤ (3 : Int) ∧ (3 : Int) < (↑4 : Int)) (.ite (!Circ.within x (Span.awl (Span.Marks.mk a b c d e)) (Span.awh (Span.Marks.mk a b c d e))) (.leaf (Value.int IntKind.i64 13)) (.leaf (Value.int IntKind.i64 0))))) (.leaf (Value.int IntKind.i64 0))) (.leaf (Value.int IntKind.i64 0))))) (.ite (!decide (k ≤ (7 : Int))) (.ite (Head.acks k) (.need ((0 : Int) ≤ (2 : Int) ∧ (2 : Int) < (↑4 : Int)) (.need ((0 : Int) ≤ (3 : Int) ∧ (3 : Int) < (↑4 : Int)) (.ite (!Circ.within x (Span.awl (Span.Marks.mk a b c d e)) (Span.awh (Span.Marks.mk a b c d e))) (.leaf (Value.int IntKind.i64 13)) (.leaf (Value.int IntKind.i64 0))))) (.leaf (Value.int IntKind.i64 0))) (.leaf (Value.int IntKind.i64 0))))))) (.ite (decide (k ≤ (7 : Int))) (.need ((0 : Int) ≤ (1 : Int) ∧ (1 : Int) < (↑4 : Int)) (.ite (!Circ.within s (Circ.of (IntKind.i64.wrap (Circ.of d + (1 : Int)))) (Span.swh (Span.Marks.mk a b c d e))) (.leaf (Value.int IntKind.i64 12)) (.ite (decide (k ≤ (7 : Int))) (.need ((0 : Int) ≤ (3 : Int) ∧ (3 : Int) < (↑4 : Int)) (.ite (!Circ.within x e (Span.awh (Span.Marks.mk a b c d e))) (.leaf (Value.int IntKind.i64 13)) (.ite (!decide (k ≤ (7 : Int))) (.ite (Head.acks k) (.need ((0 : Int) ≤ (2 : Int) ∧ (2 : Int) < (↑4 : Int)) (.need ((0 : Int) ≤ (3 : Int) ∧ (3 : Int) < (↑4 : Int)) (.ite (!Circ.within x (Span.awl (Span.Marks.mk a b c d e)) (Span.awh (Span.Marks.mk a b c d e))) (.leaf (Value.int IntKind.i64 13)) (.leaf (Value.int IntKind.i64 0))))) (.leaf (Value.int IntKind.i64 0))) (.leaf (Value.int IntKind.i64 0))))) (.ite (!decide (k ≤ (7 : Int))) (.ite (Head.acks k) (.need ((0 : Int) ≤ (2 : Int) ∧ (2 : Int) < (↑4 : Int)) (.need ((0 : Int) ≤ (3 : Int) ∧ (3 : Int) < (↑4 : Int)) (.ite (!Circ.within x (Span.awl (Span.Marks.mk a b c d e)) (Span.awh (Span.Marks.mk a b c d e))) (.leaf (Value.int IntKind.i64 13)) (.leaf (Value.int IntKind.i64 0))))) (.leaf (Value.int IntKind.i64 0))) (.leaf (Value.int IntKind.i64 0)))))) (.ite (!Circ.within s (Span.swl (Span.Marks.mk a b c d e)) (Span.swh (Span.Marks.mk a b c d e))) (.leaf (Value.int IntKind.i64 12)) (.ite (decide (k ≤ (7 : Int))) (.need ((0 : Int) ≤ (3 : Int) ∧ (3 : Int) < (↑4 : Int)) (.ite (!Circ.within x e (Span.awh (Span.Marks.mk a b c d e))) (.leaf (Value.int IntKind.i64 13)) (.ite (!decide (k ≤ (7 : Int))) (.ite (Head.acks k) (.need ((0 : Int) ≤ (2 : Int) ∧ (2 : Int) < (↑4 : Int)) (.need ((0 : Int) ≤ (3 : Int) ∧ (3 : Int) < (↑4 : Int)) (.ite (!Circ.within x (Span.awl (Span.Marks.mk a b c d e)) (Span.awh (Span.Marks.mk a b c d e))) (.leaf (Value.int IntKind.i64 13)) (.leaf (Value.int IntKind.i64 0))))) (.leaf (Value.int IntKind.i64 0))) (.leaf (Value.int IntKind.i64 0))))) (.ite (!decide (k ≤ (7 : Int))) (.ite (Head.acks k) (.need ((0 : Int) ≤ (2 : Int) ∧ (2 : Int) < (↑4 : Int)) (.need ((0 : Int) ≤ (3 : Int) ∧ (3 : Int) < (↑4 : Int)) (.ite (!Circ.within x (Span.awl (Span.Marks.mk a b c d e)) (Span.awh (Span.Marks.mk a b c d e))) (.leaf (Value.int IntKind.i64 13)) (.leaf (Value.int IntKind.i64 0))))) (.leaf (Value.int IntKind.i64 0))) (.leaf (Value.int IntKind.i64 0))))))))) (.need ((0 : Int) ≤ (0 : Int) ∧ (0 : Int) < (↑4 : Int)) (.need ((0 : Int) ≤ (1 : Int) ∧ (1 : Int) < (↑4 : Int)) (.ite (decide (k ≥ (8 : Int))) (.need ((0 : Int) ≤ (0 : Int) ∧ (0 : Int) < (↑4 : Int)) (.ite (!!Circ.less s (Span.swl (Span.Marks.mk a b c d e))) (.leaf (Value.int IntKind.i64 12)) (.ite (Head.acks k) (.need ((0 : Int) ≤ (2 : Int) ∧ (2 : Int) < (↑4 : Int)) (.need ((0 : Int) ≤ (3 : Int) ∧ (3 : Int) < (↑4 : Int)) (.ite (!Circ.within x (Span.awl (Span.Marks.mk a b c d e)) (Span.awh (Span.Marks.mk a b c d e))) (.leaf (Value.int IntKind.i64 13)) (.leaf (Value.int IntKind.i64 0))))) (.leaf (Value.int IntKind.i64 0))))) (.ite (!Circ.within s (Span.swl (Span.Marks.mk a b c d e)) (Span.swh (Span.Marks.mk a b c d e))) (.leaf (Value.int IntKind.i64 12)) (.ite (Head.acks k) (.need ((0 : Int) ≤ (2 : Int) ∧ (2 : Int) < (↑4 : Int)) (.need ((0 : Int) ≤ (3 : Int) ∧ (3 : Int) < (↑4 : Int)) (.ite (!Circ.within x (Span.awl (Span.Marks.mk a b c d e)) (Span.awh (Span.Marks.mk a b c d e))) (.leaf (Value.int IntKind.i64 13)) (.leaf (Value.int IntKind.i64 0))))) (.leaf (Value.int IntKind.i64 0))))))))) := by kernel_rfl
theorem ref14_valid (a b c d e k s x : Int) (w : World) : Calls Tryz.prog 78 #[.agg #[.int .i64 a, .int .i64 b, .int .i64 c, .int .i64 d, .int .i64 e], .int .i64 k, .int .i64 s, .int .i64 x] w fun r w' => r = .returned (.int .i64 (Span.valid ⟨a, b, c, d, e⟩ k s x)) ∧ Below w.heap.size w w' := by
  refine calls_runV (onlyS_ok SCe1_ok) follows Tryz.func78 (by kernel_rfl) (by kernel_rfl) noL_ok (val14_run a b c d e k s x) ?_ w
  have e2 : Circ.of (IntKind.i64.wrap (Circ.of d + 1)) = Circ.add d 1 := of_sub d 1 (by decide) (by decide)
  rw [e2]
  have hz : Head.size k true = 0 ↔ ¬ (0 ≤ k ∧ k ≤ 9) := Span.size_long k
  repeat' (first | (with_reducible refine t_need ?_ ?_) | (with_reducible refine t_ite ?_ ?_; all_goals intro h) | (with_reducible refine t_leaf ?_))
  all_goals (simp only [decide_eq_true_eq, decide_eq_false_iff_not, Bool.not_eq_true', Bool.not_eq_false'] at *)
  all_goals (try (exfalso; omega))
  all_goals (try (exact ⟨by decide, by decide⟩))
  all_goals (refine congrArg (Value.int IntKind.i64) ?_)
  all_goals (unfold Span.valid Span.numbered Span.acks Span.ending)
  all_goals first
    | (rw [if_pos (hz.2 (by omega))]; done)
    | (rw [if_neg (fun h => absurd (hz.1 h) (by omega))]; clear hz
       rcases (show k = 0 ∨ k = 1 ∨ k = 2 ∨ k = 3 ∨ k = 4 ∨ k = 5 ∨ k = 6 ∨ k = 7 ∨ k = 8 ∨ k = 9 by omega) with rfl | rfl | rfl | rfl | rfl | rfl | rfl | rfl | rfl | rfl
       all_goals first | (exfalso; omega) | (simp_all [Head.acks]; done))
    | trace_state
set_option maxRecDepth 100000 in
theorem came14_run (a b c d e k s x : Int) : runV Tryz.prog (onlyS Tryz.prog SCe1) noL Tryz.f79 [.agg #[.int .i64 a, .int .i64 b, .int .i64 c, .int .i64 d, .int .i64 e], .int .i64 k, .int .i64 s, .int .i64 x] = .ite (Head.acks k) (.leaf (Value.agg (Array.mk [Value.int IntKind.i64 a, Value.int IntKind.i64 b, Value.int IntKind.i64 c, Value.int IntKind.i64 (Circ.later d s), Value.int IntKind.i64 (Circ.later e x)]))) (.leaf (Value.agg (Array.mk [Value.int IntKind.i64 a, Value.int IntKind.i64 b, Value.int IntKind.i64 c, Value.int IntKind.i64 (Circ.later d s), Value.int IntKind.i64 e]))) := by kernel_rfl
theorem ref14_came (a b c d e k s x : Int) (w : World) : Calls Tryz.prog 79 #[.agg #[.int .i64 a, .int .i64 b, .int .i64 c, .int .i64 d, .int .i64 e], .int .i64 k, .int .i64 s, .int .i64 x] w fun r w' => r = .returned (.agg #[.int .i64 a, .int .i64 b, .int .i64 c, .int .i64 (Circ.later d s), .int .i64 (garOf k x e)]) ∧ Below w.heap.size w w' := by
  refine calls_runV (onlyS_ok SCe1_ok) follows Tryz.func79 (by kernel_rfl) (by kernel_rfl) noL_ok (came14_run a b c d e k s x) ?_ w
  refine t_ite (fun h => ?_) fun h => ?_
  · refine t_leaf ?_
    unfold garOf
    rw [if_pos h]
  · refine t_leaf ?_
    unfold garOf
    rw [if_neg (by rw [h]; decide)]
set_option maxRecDepth 100000 in
theorem short03_run (n : Int) : runV Tryz.prog (onlyS Tryz.prog SCe1) noL Tryz.f99 [.int .i64 n] = .leaf (Value.int IntKind.i64 ((Circ.of n).tmod (16777216 : Int))) := by kernel_rfl
theorem ref03_short (n : Int) (w : World) : Calls Tryz.prog 99 #[.int .i64 n] w fun e w' => e = .returned (.int .i64 (shortN n)) ∧ Below w.heap.size w w' := by
  refine calls_runV (onlyS_ok SCe1_ok) follows Tryz.func99 (by kernel_rfl) (by kernel_rfl) noL_ok (short03_run n) ?_ w
  have h1 := Circ.of_lo n
  have h2 := Circ.of_hi n
  refine t_leaf (congrArg (Value.int IntKind.i64) ?_)
  rw [Int.tmod_eq_emod_of_nonneg h1]
  unfold shortN Circ.of
  omega
def SCe2  : Tab := addS 99 tShort <| SCe1
theorem SCe2_ok : TabOk Tryz.prog (SCe2) := by
  refine addS_ok (SCe1_ok) (by kernel_rfl) ?_
  · (intro xs p v h hp w; unfold tShort at h; (split at h) <;> first | (cases h; done) | (simp only [Option.some.injEq, Prod.mk.injEq] at h; obtain ⟨rfl, rfl⟩ := h; exact ref03_short _ w))
set_option maxRecDepth 100000 in
theorem long03_run (a s : Int) : runV Tryz.prog (onlyS Tryz.prog SCe2) (LUn Tryz.prog (onlyS Tryz.prog SCe2) Tryz.f77 5) Tryz.f77 [.int .i64 a, .int .i64 s] = .ite (decide (Circ.far (Circ.of (IntKind.i64.wrap (IntKind.i64.wrap (IntKind.i64.wrap (IntKind.i64.wrap ((Circ.of a).tdiv (16777216 : Int)) + (-1 : Int)) * (16777216 : Int)) + shortN s))) a > (-8388608 : Int))) (.ite (decide (Circ.far (Circ.of (IntKind.i64.wrap (IntKind.i64.wrap (IntKind.i64.wrap (IntKind.i64.wrap ((Circ.of a).tdiv (16777216 : Int)) + (-1 : Int)) * (16777216 : Int)) + shortN s))) a ≤ (8388608 : Int))) (.ite (decide (Circ.far (Circ.of (IntKind.i64.wrap (IntKind.i64.wrap (IntKind.i64.wrap (IntKind.i64.wrap ((Circ.of a).tdiv (16777216 : Int)) + (0 : Int)) * (16777216 : Int)) + shortN s))) a > (-8388608 : Int))) (.ite (decide (Circ.far (Circ.of (IntKind.i64.wrap (IntKind.i64.wrap (IntKind.i64.wrap (IntKind.i64.wrap ((Circ.of a).tdiv (16777216 : Int)) + (0 : Int)) * (16777216 : Int)) + shortN s))) a ≤ (8388608 : Int))) (.ite (decide (Circ.far (Circ.of (IntKind.i64.wrap (IntKind.i64.wrap (IntKind.i64.wrap (IntKind.i64.wrap ((Circ.of a).tdiv (16777216 : Int)) + (-1 : Int)) * (16777216 : Int)) + shortN s))) a = (16777216 : Int))) (.ite (decide (Circ.far (Circ.of (IntKind.i64.wrap (IntKind.i64.wrap (IntKind.i64.wrap (IntKind.i64.wrap ((Circ.of a).tdiv (16777216 : Int)) + (1 : Int)) * (16777216 : Int)) + shortN s))) a > (-8388608 : Int))) (.ite (decide (Circ.far (Circ.of (IntKind.i64.wrap (IntKind.i64.wrap (IntKind.i64.wrap (IntKind.i64.wrap ((Circ.of a).tdiv (16777216 : Int)) + (1 : Int)) * (16777216 : Int)) + shortN s))) a ≤ (8388608 : Int))) (.ite (decide (Circ.far (Circ.of (IntKind.i64.wrap (IntKind.i64.wrap (IntKind.i64.wrap (IntKind.i64.wrap ((Circ.of a).tdiv (16777216 : Int)) + (0 : Int)) * (16777216 : Int)) + shortN s))) a = (16777216 : Int))) (.leaf (Value.int IntKind.i64 (Circ.of (IntKind.i64.wrap (IntKind.i64.wrap (IntKind.i64.wrap (IntKind.i64.wrap ((Circ.of a).tdiv (16777216 : Int)) + (1 : Int)) * (16777216 : Int)) + shortN s))))) (.leaf (Value.int IntKind.i64 (Circ.of (IntKind.i64.wrap (IntKind.i64.wrap (IntKind.i64.wrap (IntKind.i64.wrap ((Circ.of a).tdiv (16777216 : Int)) + (0 : Int)) * (16777216 : Int)) + shortN s)))))) (.leaf (Value.int IntKind.i64 (Circ.of (IntKind.i64.wrap (IntKind.i64.wrap (IntKind.i64.wrap (IntKind.i64.wrap ((Circ.of a).tdiv (16777216 : Int)) + (0 : Int)) * (16777216 : Int)) + shortN s)))))) (.leaf (Value.int IntKind.i64 (Circ.of (IntKind.i64.wrap (IntKind.i64.wrap (IntKind.i64.wrap (IntKind.i64.wrap ((Circ.of a).tdiv (16777216 : Int)) + (0 : Int)) * (16777216 : Int)) + shortN s)))))) (.ite (decide (Circ.far (Circ.of (IntKind.i64.wrap (IntKind.i64.wrap (IntKind.i64.wrap (IntKind.i64.wrap ((Circ.of a).tdiv (16777216 : Int)) + (1 : Int)) * (16777216 : Int)) + shortN s))) a > (-8388608 : Int))) (.ite (decide (Circ.far (Circ.of (IntKind.i64.wrap (IntKind.i64.wrap (IntKind.i64.wrap (IntKind.i64.wrap ((Circ.of a).tdiv (16777216 : Int)) + (1 : Int)) * (16777216 : Int)) + shortN s))) a ≤ (8388608 : Int))) (.ite (decide (Circ.far (Circ.of (IntKind.i64.wrap (IntKind.i64.wrap (IntKind.i64.wrap (IntKind.i64.wrap ((Circ.of a).tdiv (16777216 : Int)) + (-1 : Int)) * (16777216 : Int)) + shortN s))) a = (16777216 : Int))) (.leaf (Value.int IntKind.i64 (Circ.of (IntKind.i64.wrap (IntKind.i64.wrap (IntKind.i64.wrap (IntKind.i64.wrap ((Circ.of a).tdiv (16777216 : Int)) + (1 : Int)) * (16777216 : Int)) + shortN s))))) (.leaf (Value.int IntKind.i64 (Circ.of (IntKind.i64.wrap (IntKind.i64.wrap (IntKind.i64.wrap (IntKind.i64.wrap ((Circ.of a).tdiv (16777216 : Int)) + (-1 : Int)) * (16777216 : Int)) + shortN s)))))) (.leaf (Value.int IntKind.i64 (Circ.of (IntKind.i64.wrap (IntKind.i64.wrap (IntKind.i64.wrap (IntKind.i64.wrap ((Circ.of a).tdiv (16777216 : Int)) + (-1 : Int)) * (16777216 : Int)) + shortN s)))))) (.leaf (Value.int IntKind.i64 (Circ.of (IntKind.i64.wrap (IntKind.i64.wrap (IntKind.i64.wrap (IntKind.i64.wrap ((Circ.of a).tdiv (16777216 : Int)) + (-1 : Int)) * (16777216 : Int)) + shortN s))))))) (.ite (decide (Circ.far (Circ.of (IntKind.i64.wrap (IntKind.i64.wrap (IntKind.i64.wrap (IntKind.i64.wrap ((Circ.of a).tdiv (16777216 : Int)) + (1 : Int)) * (16777216 : Int)) + shortN s))) a > (-8388608 : Int))) (.ite (decide (Circ.far (Circ.of (IntKind.i64.wrap (IntKind.i64.wrap (IntKind.i64.wrap (IntKind.i64.wrap ((Circ.of a).tdiv (16777216 : Int)) + (1 : Int)) * (16777216 : Int)) + shortN s))) a ≤ (8388608 : Int))) (.ite (decide (Circ.far (Circ.of (IntKind.i64.wrap (IntKind.i64.wrap (IntKind.i64.wrap (IntKind.i64.wrap ((Circ.of a).tdiv (16777216 : Int)) + (-1 : Int)) * (16777216 : Int)) + shortN s))) a = (16777216 : Int))) (.leaf (Value.int IntKind.i64 (Circ.of (IntKind.i64.wrap (IntKind.i64.wrap (IntKind.i64.wrap (IntKind.i64.wrap ((Circ.of a).tdiv (16777216 : Int)) + (1 : Int)) * (16777216 : Int)) + shortN s))))) (.leaf (Value.int IntKind.i64 (Circ.of (IntKind.i64.wrap (IntKind.i64.wrap (IntKind.i64.wrap (IntKind.i64.wrap ((Circ.of a).tdiv (16777216 : Int)) + (-1 : Int)) * (16777216 : Int)) + shortN s)))))) (.leaf (Value.int IntKind.i64 (Circ.of (IntKind.i64.wrap (IntKind.i64.wrap (IntKind.i64.wrap (IntKind.i64.wrap ((Circ.of a).tdiv (16777216 : Int)) + (-1 : Int)) * (16777216 : Int)) + shortN s)))))) (.leaf (Value.int IntKind.i64 (Circ.of (IntKind.i64.wrap (IntKind.i64.wrap (IntKind.i64.wrap (IntKind.i64.wrap ((Circ.of a).tdiv (16777216 : Int)) + (-1 : Int)) * (16777216 : Int)) + shortN s))))))) (.ite (decide (Circ.far (Circ.of (IntKind.i64.wrap (IntKind.i64.wrap (IntKind.i64.wrap (IntKind.i64.wrap ((Circ.of a).tdiv (16777216 : Int)) + (1 : Int)) * (16777216 : Int)) + shortN s))) a > (-8388608 : Int))) (.ite (decide (Circ.far (Circ.of (IntKind.i64.wrap (IntKind.i64.wrap (IntKind.i64.wrap (IntKind.i64.wrap ((Circ.of a).tdiv (16777216 : Int)) + (1 : Int)) * (16777216 : Int)) + shortN s))) a ≤ (8388608 : Int))) (.ite (decide (Circ.far (Circ.of (IntKind.i64.wrap (IntKind.i64.wrap (IntKind.i64.wrap (IntKind.i64.wrap ((Circ.of a).tdiv (16777216 : Int)) + (-1 : Int)) * (16777216 : Int)) + shortN s))) a = (16777216 : Int))) (.leaf (Value.int IntKind.i64 (Circ.of (IntKind.i64.wrap (IntKind.i64.wrap (IntKind.i64.wrap (IntKind.i64.wrap ((Circ.of a).tdiv (16777216 : Int)) + (1 : Int)) * (16777216 : Int)) + shortN s))))) (.leaf (Value.int IntKind.i64 (Circ.of (IntKind.i64.wrap (IntKind.i64.wrap (IntKind.i64.wrap (IntKind.i64.wrap ((Circ.of a).tdiv (16777216 : Int)) + (-1 : Int)) * (16777216 : Int)) + shortN s)))))) (.leaf (Value.int IntKind.i64 (Circ.of (IntKind.i64.wrap (IntKind.i64.wrap (IntKind.i64.wrap (IntKind.i64.wrap ((Circ.of a).tdiv (16777216 : Int)) + (-1 : Int)) * (16777216 : Int)) + shortN s)))))) (.leaf (Value.int IntKind.i64 (Circ.of (IntKind.i64.wrap (IntKind.i64.wrap (IntKind.i64.wrap (IntKind.i64.wrap ((Circ.of a).tdiv (16777216 : Int)) + (-1 : Int)) * (16777216 : Int)) + shortN s))))))) (.ite (decide (Circ.far (Circ.of (IntKind.i64.wrap (IntKind.i64.wrap (IntKind.i64.wrap (IntKind.i64.wrap ((Circ.of a).tdiv (16777216 : Int)) + (0 : Int)) * (16777216 : Int)) + shortN s))) a > (-8388608 : Int))) (.ite (decide (Circ.far (Circ.of (IntKind.i64.wrap (IntKind.i64.wrap (IntKind.i64.wrap (IntKind.i64.wrap ((Circ.of a).tdiv (16777216 : Int)) + (0 : Int)) * (16777216 : Int)) + shortN s))) a ≤ (8388608 : Int))) (.ite (decide (Circ.far (Circ.of (IntKind.i64.wrap (IntKind.i64.wrap (IntKind.i64.wrap (IntKind.i64.wrap ((Circ.of a).tdiv (16777216 : Int)) + (1 : Int)) * (16777216 : Int)) + shortN s))) a > (-8388608 : Int))) (.ite (decide (Circ.far (Circ.of (IntKind.i64.wrap (IntKind.i64.wrap (IntKind.i64.wrap (IntKind.i64.wrap ((Circ.of a).tdiv (16777216 : Int)) + (1 : Int)) * (16777216 : Int)) + shortN s))) a ≤ (8388608 : Int))) (.ite (decide (Circ.far (Circ.of (IntKind.i64.wrap (IntKind.i64.wrap (IntKind.i64.wrap (IntKind.i64.wrap ((Circ.of a).tdiv (16777216 : Int)) + (0 : Int)) * (16777216 : Int)) + shortN s))) a = (16777216 : Int))) (.leaf (Value.int IntKind.i64 (Circ.of (IntKind.i64.wrap (IntKind.i64.wrap (IntKind.i64.wrap (IntKind.i64.wrap ((Circ.of a).tdiv (16777216 : Int)) + (1 : Int)) * (16777216 : Int)) + shortN s))))) (.leaf (Value.int IntKind.i64 (Circ.of (IntKind.i64.wrap (IntKind.i64.wrap (IntKind.i64.wrap (IntKind.i64.wrap ((Circ.of a).tdiv (16777216 : Int)) + (0 : Int)) * (16777216 : Int)) + shortN s)))))) (.leaf (Value.int IntKind.i64 (Circ.of (IntKind.i64.wrap (IntKind.i64.wrap (IntKind.i64.wrap (IntKind.i64.wrap ((Circ.of a).tdiv (16777216 : Int)) + (0 : Int)) * (16777216 : Int)) + shortN s)))))) (.leaf (Value.int IntKind.i64 (Circ.of (IntKind.i64.wrap (IntKind.i64.wrap (IntKind.i64.wrap (IntKind.i64.wrap ((Circ.of a).tdiv (16777216 : Int)) + (0 : Int)) * (16777216 : Int)) + shortN s)))))) (.ite (decide (Circ.far (Circ.of (IntKind.i64.wrap (IntKind.i64.wrap (IntKind.i64.wrap (IntKind.i64.wrap ((Circ.of a).tdiv (16777216 : Int)) + (1 : Int)) * (16777216 : Int)) + shortN s))) a > (-8388608 : Int))) (.ite (decide (Circ.far (Circ.of (IntKind.i64.wrap (IntKind.i64.wrap (IntKind.i64.wrap (IntKind.i64.wrap ((Circ.of a).tdiv (16777216 : Int)) + (1 : Int)) * (16777216 : Int)) + shortN s))) a ≤ (8388608 : Int))) (.leaf (Value.int IntKind.i64 (Circ.of (IntKind.i64.wrap (IntKind.i64.wrap (IntKind.i64.wrap (IntKind.i64.wrap ((Circ.of a).tdiv (16777216 : Int)) + (1 : Int)) * (16777216 : Int)) + shortN s))))) (.leaf (Value.int IntKind.i64 0))) (.leaf (Value.int IntKind.i64 0)))) (.ite (decide (Circ.far (Circ.of (IntKind.i64.wrap (IntKind.i64.wrap (IntKind.i64.wrap (IntKind.i64.wrap ((Circ.of a).tdiv (16777216 : Int)) + (1 : Int)) * (16777216 : Int)) + shortN s))) a > (-8388608 : Int))) (.ite (decide (Circ.far (Circ.of (IntKind.i64.wrap (IntKind.i64.wrap (IntKind.i64.wrap (IntKind.i64.wrap ((Circ.of a).tdiv (16777216 : Int)) + (1 : Int)) * (16777216 : Int)) + shortN s))) a ≤ (8388608 : Int))) (.leaf (Value.int IntKind.i64 (Circ.of (IntKind.i64.wrap (IntKind.i64.wrap (IntKind.i64.wrap (IntKind.i64.wrap ((Circ.of a).tdiv (16777216 : Int)) + (1 : Int)) * (16777216 : Int)) + shortN s))))) (.leaf (Value.int IntKind.i64 0))) (.leaf (Value.int IntKind.i64 0))))) (.ite (decide (Circ.far (Circ.of (IntKind.i64.wrap (IntKind.i64.wrap (IntKind.i64.wrap (IntKind.i64.wrap ((Circ.of a).tdiv (16777216 : Int)) + (0 : Int)) * (16777216 : Int)) + shortN s))) a > (-8388608 : Int))) (.ite (decide (Circ.far (Circ.of (IntKind.i64.wrap (IntKind.i64.wrap (IntKind.i64.wrap (IntKind.i64.wrap ((Circ.of a).tdiv (16777216 : Int)) + (0 : Int)) * (16777216 : Int)) + shortN s))) a ≤ (8388608 : Int))) (.ite (decide (Circ.far (Circ.of (IntKind.i64.wrap (IntKind.i64.wrap (IntKind.i64.wrap (IntKind.i64.wrap ((Circ.of a).tdiv (16777216 : Int)) + (1 : Int)) * (16777216 : Int)) + shortN s))) a > (-8388608 : Int))) (.ite (decide (Circ.far (Circ.of (IntKind.i64.wrap (IntKind.i64.wrap (IntKind.i64.wrap (IntKind.i64.wrap ((Circ.of a).tdiv (16777216 : Int)) + (1 : Int)) * (16777216 : Int)) + shortN s))) a ≤ (8388608 : Int))) (.ite (decide (Circ.far (Circ.of (IntKind.i64.wrap (IntKind.i64.wrap (IntKind.i64.wrap (IntKind.i64.wrap ((Circ.of a).tdiv (16777216 : Int)) + (0 : Int)) * (16777216 : Int)) + shortN s))) a = (16777216 : Int))) (.leaf (Value.int IntKind.i64 (Circ.of (IntKind.i64.wrap (IntKind.i64.wrap (IntKind.i64.wrap (IntKind.i64.wrap ((Circ.of a).tdiv (16777216 : Int)) + (1 : Int)) * (16777216 : Int)) + shortN s))))) (.leaf (Value.int IntKind.i64 (Circ.of (IntKind.i64.wrap (IntKind.i64.wrap (IntKind.i64.wrap (IntKind.i64.wrap ((Circ.of a).tdiv (16777216 : Int)) + (0 : Int)) * (16777216 : Int)) + shortN s)))))) (.leaf (Value.int IntKind.i64 (Circ.of (IntKind.i64.wrap (IntKind.i64.wrap (IntKind.i64.wrap (IntKind.i64.wrap ((Circ.of a).tdiv (16777216 : Int)) + (0 : Int)) * (16777216 : Int)) + shortN s)))))) (.leaf (Value.int IntKind.i64 (Circ.of (IntKind.i64.wrap (IntKind.i64.wrap (IntKind.i64.wrap (IntKind.i64.wrap ((Circ.of a).tdiv (16777216 : Int)) + (0 : Int)) * (16777216 : Int)) + shortN s)))))) (.ite (decide (Circ.far (Circ.of (IntKind.i64.wrap (IntKind.i64.wrap (IntKind.i64.wrap (IntKind.i64.wrap ((Circ.of a).tdiv (16777216 : Int)) + (1 : Int)) * (16777216 : Int)) + shortN s))) a > (-8388608 : Int))) (.ite (decide (Circ.far (Circ.of (IntKind.i64.wrap (IntKind.i64.wrap (IntKind.i64.wrap (IntKind.i64.wrap ((Circ.of a).tdiv (16777216 : Int)) + (1 : Int)) * (16777216 : Int)) + shortN s))) a ≤ (8388608 : Int))) (.leaf (Value.int IntKind.i64 (Circ.of (IntKind.i64.wrap (IntKind.i64.wrap (IntKind.i64.wrap (IntKind.i64.wrap ((Circ.of a).tdiv (16777216 : Int)) + (1 : Int)) * (16777216 : Int)) + shortN s))))) (.leaf (Value.int IntKind.i64 0))) (.leaf (Value.int IntKind.i64 0)))) (.ite (decide (Circ.far (Circ.of (IntKind.i64.wrap (IntKind.i64.wrap (IntKind.i64.wrap (IntKind.i64.wrap ((Circ.of a).tdiv (16777216 : Int)) + (1 : Int)) * (16777216 : Int)) + shortN s))) a > (-8388608 : Int))) (.ite (decide (Circ.far (Circ.of (IntKind.i64.wrap (IntKind.i64.wrap (IntKind.i64.wrap (IntKind.i64.wrap ((Circ.of a).tdiv (16777216 : Int)) + (1 : Int)) * (16777216 : Int)) + shortN s))) a ≤ (8388608 : Int))) (.leaf (Value.int IntKind.i64 (Circ.of (IntKind.i64.wrap (IntKind.i64.wrap (IntKind.i64.wrap (IntKind.i64.wrap ((Circ.of a).tdiv (16777216 : Int)) + (1 : Int)) * (16777216 : Int)) + shortN s))))) (.leaf (Value.int IntKind.i64 0))) (.leaf (Value.int IntKind.i64 0)))) := by kernel_rfl
theorem far_near (a c : Int) (h0 : -33554432 ≤ c) (h1 : c ≤ 33554432) : Circ.far (Circ.add a c) a = c := by
  have hu : Circ.up a (Circ.add a c) = c % 281474976710656 := by unfold Circ.up Circ.add Circ.of; omega
  unfold Circ.far
  rw [hu]
  split <;> omega
theorem long_k (a s k : Int) (hk : k = -1 ∨ k = 0 ∨ k = 1) : Circ.of (IntKind.i64.wrap (IntKind.i64.wrap (IntKind.i64.wrap (IntKind.i64.wrap ((Circ.of a).tdiv 16777216) + k) * 16777216) + shortN s)) = Circ.add a (k * 16777216 + (shortN s - shortN a)) := by
  have h1 := Circ.of_lo a
  have h2 := Circ.of_hi a
  have h3 := short_lo s
  have h4 := short_hi s
  have e0 : (Circ.of a).tdiv 16777216 = Circ.of a / 16777216 := Int.tdiv_eq_ediv_of_nonneg h1
  rw [e0]
  have e1 : IntKind.i64.wrap (Circ.of a / 16777216) = Circ.of a / 16777216 := w64 _ (by omega) (by omega)
  rw [e1, w64 (Circ.of a / 16777216 + k) (by omega) (by omega), w64 ((Circ.of a / 16777216 + k) * 16777216) (by omega) (by omega), w64 _ (by omega) (by omega)]
  unfold Circ.add shortN Circ.of at *
  omega
theorem ref03_long (a s : Int) (w : World) : Calls Tryz.prog 77 #[.int .i64 a, .int .i64 s] w fun e w' => e = .returned (.int .i64 (longN a s)) ∧ Below w.heap.size w w' := by
  refine calls_runV (onlyS_ok SCe2_ok) follows Tryz.func77 (by kernel_rfl) (by kernel_rfl) (one_loop (by kernel_rfl) fun st t h => by
    rw [addL_same h]; exact unroll_ok (onlyS_ok SCe2_ok) follows (by kernel_rfl) (fun _ _ h => by revert h; rw [show loopsOf (loopAt Tryz.f77 0) = [] by kernel_rfl]; simp) 5 st) (long03_run a s) ?_ w
  have h1 := short_lo s
  have h2 := short_hi s
  have h3 := short_lo a
  have h4 := short_hi a
  rw [long_k a s (-1) (by decide), long_k a s 0 (by decide), long_k a s 1 (by decide)]
  rw [far_near a (-1 * 16777216 + (shortN s - shortN a)) (by omega) (by omega), far_near a (0 * 16777216 + (shortN s - shortN a)) (by omega) (by omega), far_near a (1 * 16777216 + (shortN s - shortN a)) (by omega) (by omega)]
  unfold longN
  generalize shortN s = S at *
  generalize shortN a = L at *
  repeat' (first | (with_reducible refine t_need ?_ ?_) | (with_reducible refine t_ite ?_ ?_; all_goals intro h) | (with_reducible refine t_leaf ?_))
  all_goals (simp only [decide_eq_true_eq, decide_eq_false_iff_not] at *)
  all_goals first
    | (exfalso; omega)
    | (refine congrArg (Value.int IntKind.i64) (congrArg (Circ.add a) ?_); split <;> omega)
    | trace_state
def CkPL (p : Pk) (n : Nat) (f : Nat → Nat → Value) : Prop := OpP n f ∧ p.data.size ≤ 1000000
def fZero (h : List SV → List Blk → Option (List Prop × Value)) : List SV → List Blk → Option (T (SV × List Blk)) := fun ss H => match h (ss.map openS) H with
  | some (p, v) => some (needs p (.need (v = .int .i64 0) (.leaf (.c (.int .i64 0), H))))
  | none => none
def fTrue (h : List SV → List Blk → Option (List Prop × Value)) : List SV → List Blk → Option (T (SV × List Blk)) := fun ss H => match h (ss.map openS) H with
  | some (p, v) => some (needs p (.need (v = .bool true) (.leaf (.tt, H))))
  | none => none
theorem fZero_ok {P : Program} {k : FuncId} {h : List SV → List Blk → Option (List Prop × Value)} (hh : ReadOk P k h) : EntryOk P k (fZero h) := by
  intro ss H t ht bs B w vs hm hv Qs hq
  unfold fZero at ht
  split at ht
  · rename_i p v hpv
    simp only [Option.some.injEq] at ht
    subst ht
    obtain ⟨h1, h2, h3⟩ := needs_ok hq
    subst h2
    refine (hh _ H p _ hpv bs B w vs hm (by rw [opens_tos]; exact hv) h1).mono ?_
    rintro e w' ⟨rfl, hb⟩
    exact ⟨_, _, B, _, h3, List.prefix_refl _, rfl, rfl, hm.below hb⟩
  · cases ht
theorem fTrue_ok {P : Program} {k : FuncId} {h : List SV → List Blk → Option (List Prop × Value)} (hh : ReadOk P k h) : EntryOk P k (fTrue h) := by
  intro ss H t ht bs B w vs hm hv Qs hq
  unfold fTrue at ht
  split at ht
  · rename_i p v hpv
    simp only [Option.some.injEq] at ht
    subst ht
    obtain ⟨h1, h2, h3⟩ := needs_ok hq
    subst h2
    refine (hh _ H p _ hpv bs B w vs hm (by rw [opens_tos]; exact hv) h1).mono ?_
    rintro e w' ⟨rfl, hb⟩
    exact ⟨_, _, B, _, h3, List.prefix_refl _, rfl, rfl, hm.below hb⟩
  · cases ht
def rdV (t : List Value → Option (List Prop × Value)) : List SV → List Blk → Option (List Prop × Value) := fun ss _ => (plains ss).bind t
theorem rdV_ok {P : Program} {k : FuncId} {t : List Value → Option (List Prop × Value)} (ht : ∀ xs p v, t xs = some (p, v) → (∀ q ∈ p, q) → ∀ w, Calls P k xs.toArray w fun e w' => e = .returned v ∧ Below w.heap.size w w') : ReadOk P k (rdV t) := by
  intro ss H p v h bs B w vs hm hv hp
  unfold rdV at h
  rw [Option.bind_eq_some_iff] at h
  obtain ⟨xs, h1, h2⟩ := h
  have e : vs = xs := by
    have := plains_to (B := B) h1
    rw [hv, Option.some.injEq] at this
    exact this
  subst e
  exact ht _ p v h2 hp w
def fAcks : List SV → List Blk → Option (T (SV × List Blk))
  | [.c (.int .i64 k)], H => some (.leaf (bif Head.acks k then .tt else .ff, H))
  | _, _ => none
theorem fAcks_ok : EntryOk Tryz.prog 91 fAcks := by
  intro ss H t ht bs B w vs hm hv Qs hq
  unfold fAcks at ht
  split at ht
  · rename_i k
    simp only [Option.some.injEq] at ht
    subst ht
    obtain ⟨x0, r0, e0, v0, rfl⟩ := tos_cons hv
    obtain rfl := tos_nil v0
    simp only [SV.to, Option.some.injEq] at e0
    subst e0
    refine (head_acks k w).mono ?_
    rintro e w' ⟨rfl, hb⟩
    refine ⟨_, _, B, _, hq, List.prefix_refl _, rfl, ?_, hm.below hb⟩
    cases Head.acks k <;> rfl
  · cases ht
def fBeg : List SV → List Blk → Option (T (SV × List Blk))
  | [.c (.int .i64 n)], H => some (.need (n = 8) (.leaf (.agg [.c (.int .i64 8), .c (.int .i64 8), .c (.int .i64 0)], H)))
  | _, _ => none
theorem fBeg_ok : EntryOk Tryz.prog 55 fBeg := by
  intro ss H t ht bs B w vs hm hv Qs hq
  unfold fBeg at ht
  split at ht
  · rename_i k
    simp only [Option.some.injEq] at ht
    subst ht
    obtain ⟨x0, r0, e0, v0, rfl⟩ := tos_cons hv
    obtain rfl := tos_nil v0
    simp only [SV.to, Option.some.injEq] at e0
    subst e0
    refine (boff_tab k hq.1 w).mono ?_
    rintro e w' ⟨rfl, hb⟩
    exact ⟨_, _, B, _, hq.2, List.prefix_refl _, rfl, rfl, hm.below hb⟩
  · cases ht
def fTk0 : List SV → List Blk → Option (T (SV × List Blk))
  | [s], H => match aggOf s with
    | some [.v (.int .i64 a), .v (.int .i64 b), .v (.int .i64 c)] => some (.need (a = 0 ∧ b = 0) (.leaf (.tup [.agg [.c (.int .i64 0), .c (.int .i64 0), .v (.int .i64 c)], .ff, .ff], H)))
    | _ => none
  | _, _ => none
theorem fTk0_ok : EntryOk Tryz.prog 56 fTk0 := by
  intro ss H t ht bs B w vs hm hv Qs hq
  unfold fTk0 at ht
  split at ht
  · rename_i s H
    split at ht
    · rename_i a b c hs
      simp only [Option.some.injEq] at ht
      subst ht
      obtain ⟨⟨rfl, rfl⟩, hq⟩ := hq
      obtain ⟨x0, r0, e0, v0, rfl⟩ := tos_cons hv
      obtain rfl := tos_nil v0
      obtain ⟨us, hu, rfl⟩ := aggOf_ok e0 hs
      simp only [SV.tos, SV.to, Option.some.injEq] at hu
      subst hu
      refine (tick_any 0 0 c w).mono ?_
      rintro e w' ⟨rfl, hb⟩
      refine ⟨_, _, B, _, hq, List.prefix_refl _, rfl, ?_, hm.below hb⟩
      rfl
    · cases ht
  · cases ht
def markC : SV → SV
  | .v (.int k z) => .c (.int k z)
  | .v (.bool true) => .tt
  | .v (.bool false) => .ff
  | .v (.slice none 0 0) => .c (.slice none 0 0)
  | s => s
theorem markC_to (B : List Value) (s : SV) : (markC s).to B = s.to B := by
  unfold markC
  split <;> rfl
def closeCells : List SV → List SV
  | [c0, c1, c2, c3, c4, c5, c6, c7, c8, c9, c10, c11, c12, c13, c14, c15] => [markC c0, markC c1, c2, c3, c4, c5, c6, markC c7, markC c8, markC c9, markC c10, markC c11, markC c12, markC c13, markC c14, markC c15]
  | [c0, c1, c2, c3, c4, c5, c6, c7, c8, c9, c10, c11, c12] => [markC c0, markC c1, c2, c3, c4, c5, c6, c7, markC c8, c9, c10, markC c11, c12]
  | l => l
theorem closeCells_tos (B : List Value) (l : List SV) : SV.tos B (closeCells l) = SV.tos B l := by
  unfold closeCells
  split
  · simp only [SV.tos, markC_to]
  · simp only [SV.tos, markC_to]
  · rfl
def closeArg : SV → SV
  | .agg l => .agg (closeCells l)
  | .v (.agg ⟨l⟩) => .agg (closeCells (l.map .v))
  | s => s
theorem closeArg_to (B : List Value) (s : SV) : (closeArg s).to B = s.to B := by
  unfold closeArg
  split
  · simp only [SV.to, closeCells_tos]
  · simp only [SV.to, closeCells_tos, tos_plain]; rfl
  · rfl
def closeB : Blk → Blk
  | .own cells => .own (closeCells cells)
  | b => b
theorem closeB_excl (x : Blk) : (closeB x).excl = x.excl := by cases x <;> rfl
theorem closeB_row {x : Blk} {n sz : Nat} {f : Nat → Nat → Value} (h : closeB x = .row n sz f) : x = .row n sz f := by cases x <;> first | exact h | cases h
theorem closeB_sat {B : List Value} {w : World} {u : Value} {x : Blk} (h : BlkSat B w u x) : BlkSat B w u (closeB x) := by
  cases x with
  | own cells =>
    obtain ⟨b, vs, h1, h2, h3⟩ := h
    exact ⟨b, vs, h1, by rw [closeCells_tos]; exact h2, h3⟩
  | _ => exact h
theorem closeB_mem {w0 : World} {bs : List Nat} {H : List Blk} {B : List Value} {w : World} (h : Mem w0 bs H B w) : Mem w0 bs (H.map closeB) B w := by
  have get : ∀ {k : Nat} {x : Blk}, (H.map closeB)[k]? = some x → ∃ y, H[k]? = some y ∧ x = closeB y := by
    intro k x hk
    rw [List.getElem?_map, Option.map_eq_some_iff] at hk
    obtain ⟨y, hy, rfl⟩ := hk
    exact ⟨y, hy, rfl⟩
  have ex : ∀ k b, ExBlk (H.map closeB) B k b → ExBlk H B k b := by
    rintro k b ⟨x, u, h1, h2, h3, h4⟩
    obtain ⟨y, hy, rfl⟩ := get h1
    exact ⟨y, u, hy, by rw [← closeB_excl]; exact h2, h3, h4⟩
  have rd : ∀ k b, RdBlk (H.map closeB) B k b → RdBlk H B k b := by
    rintro k b ⟨n, sz, f, u, h1, h2, h3, h4, h5⟩
    obtain ⟨y, hy, e⟩ := get h1
    exact ⟨n, sz, f, u, by rw [hy, closeB_row e.symm], h2, h3, h4, h5⟩
  refine ⟨⟨by simp [h.sat.len], fun k x u hk hu => ?_, fun k j b h1 h2 => h.sat.sep k j b (ex _ _ h1) (ex _ _ h2), fun k j b h1 h2 => h.sat.far k j b (ex _ _ h1) (rd _ _ h2)⟩, h.keeps, fun k b h1 => h.good k b (ex _ _ h1)⟩
  obtain ⟨y, hy, rfl⟩ := get hk
  exact closeB_sat (h.sat.blk k y u hy hu)
def closeE (h : List SV → List Blk → Option (T (SV × List Blk))) : List SV → List Blk → Option (T (SV × List Blk)) := fun ss H => h (ss.map closeArg) (H.map closeB)
theorem closeArgs_tos (B : List Value) : ∀ l : List SV, SV.tos B (l.map closeArg) = SV.tos B l
  | [] => rfl
  | s :: l => by simp only [List.map_cons, SV.tos, closeArg_to, closeArgs_tos B l]
theorem closeE_ok {P : Program} {k : FuncId} {h : List SV → List Blk → Option (T (SV × List Blk))} (hh : EntryOk P k h) : EntryOk P k (closeE h) :=
  fun ss H t ht bs B w vs hm hv Qs hq => hh _ _ t ht bs B w vs (closeB_mem hm) (by rw [closeArgs_tos]; exact hv) Qs hq
def mark13 : List SV → List SV
  | a :: b :: c :: d :: e :: f :: g :: h :: i :: j :: k :: o :: m :: l => markC a :: markC b :: c :: d :: e :: f :: g :: h :: i :: j :: k :: o :: m :: mark13 l
  | l => l
theorem mark13_tos (B : List Value) : ∀ l : List SV, SV.tos B (mark13 l) = SV.tos B l
  | a :: b :: c :: d :: e :: f :: g :: h :: i :: j :: k :: o :: m :: l => by
    simp only [mark13, SV.tos, markC_to, mark13_tos B l]
  | [] | [_] | [_, _] | [_, _, _] | [_, _, _, _] | [_, _, _, _, _] | [_, _, _, _, _, _] | [_, _, _, _, _, _, _] | [_, _, _, _, _, _, _, _] | [_, _, _, _, _, _, _, _, _] | [_, _, _, _, _, _, _, _, _, _] | [_, _, _, _, _, _, _, _, _, _, _] | [_, _, _, _, _, _, _, _, _, _, _, _] => rfl
abbrev CNil (P : Program) : Cfg := both P noS noF []
set_option maxRecDepth 100000 in
theorem outs_run (c0 c1 c2 c3 c4 c5 c6 c7 c8 c9 c10 c11 c12 c13 c14 : SV) (e : TypeId) (n : Nat) (l : List SV) : runF Tryz.prog (CNil Tryz.prog) noL Tryz.f18 (Tryz.f18.body.getD .skip) [.ptr 0 0] [.own [c0, c1, c2, c3, c4, c5, c6, c7, c8, c9, c10, c11, c12, c13, c14, .ref 1], .lst e 13 n l] = .leaf (SV.ref 1, [.own [c0, c1, c2, c3, c4, c5, c6, c7, c8, c9, c10, c11, c12, c13, c14, SV.c (Value.slice none 0 0)], Blk.lst e 13 n l]) := by kernel_rfl
set_option maxRecDepth 100000 in
theorem outs0_run (c0 c1 c2 c3 c4 c5 c6 c7 c8 c9 c10 c11 c12 c13 c14 : SV) : runF Tryz.prog (CNil Tryz.prog) noL Tryz.f18 (Tryz.f18.body.getD .skip) [.ptr 0 0] [.own [c0, c1, c2, c3, c4, c5, c6, c7, c8, c9, c10, c11, c12, c13, c14, .v (.slice none 0 0)]] = .leaf (SV.v (Value.slice none 0 0), [.own [c0, c1, c2, c3, c4, c5, c6, c7, c8, c9, c10, c11, c12, c13, c14, SV.c (Value.slice none 0 0)]]) := by kernel_rfl
theorem CNil_ok : CfgOk Tryz.prog (CNil Tryz.prog) := both_ok noS_ok noF_ok
theorem outs_ok : EntryOk Tryz.prog 18 (inl Tryz.prog (CNil Tryz.prog) noL Tryz.f18) := inl_ok CNil_ok follows Tryz.func18 (by kernel_rfl) (lexAllF_ok (by kernel_rfl)) (noloops (by kernel_rfl))
def fOuts : List SV → List Blk → Option (T (SV × List Blk))
  | [.ptr 0 0], [.own [c0, c1, c2, c3, c4, c5, c6, c7, c8, c9, c10, c11, c12, c13, c14, .ref 1], .lst e 13 n l] => some (.leaf (.ref 1, [.own [c0, c1, c2, c3, c4, c5, c6, c7, c8, c9, c10, c11, c12, c13, c14, .c (.slice none 0 0)], .lst e 13 n (mark13 l)]))
  | [.ptr 0 0], [.own [c0, c1, c2, c3, c4, c5, c6, c7, c8, c9, c10, c11, c12, c13, c14, .ref 1], .vec _ e 13 n xs] => some (.leaf (.ref 1, [.own [c0, c1, c2, c3, c4, c5, c6, c7, c8, c9, c10, c11, c12, c13, c14, .c (.slice none 0 0)], .lst e 13 n (mark13 (xs.map .v))]))
  | [.ptr 0 0], [.own [c0, c1, c2, c3, c4, c5, c6, c7, c8, c9, c10, c11, c12, c13, c14, s]] => bif isNilS (some s) then some (.leaf (.c (.slice none 0 0), [.own [c0, c1, c2, c3, c4, c5, c6, c7, c8, c9, c10, c11, c12, c13, c14, .c (.slice none 0 0)]])) else none
  | _, _ => none
theorem fOuts_ok : EntryOk Tryz.prog 18 fOuts := by
  intro ss H t ht bs B w vs hm hv Qs hq
  have key : ∀ {c0 c1 c2 c3 c4 c5 c6 c7 c8 c9 c10 c11 c12 c13 c14 : SV} {e : TypeId} {n : Nat} {l : List SV} {B : List Value} {Qs : SV × List Blk → Prop}, Mem w bs [.own [c0, c1, c2, c3, c4, c5, c6, c7, c8, c9, c10, c11, c12, c13, c14, .ref 1], .lst e 13 n l] B w → SV.tos B [.ptr 0 0] = some vs → Qs (.ref 1, [.own [c0, c1, c2, c3, c4, c5, c6, c7, c8, c9, c10, c11, c12, c13, c14, .c (.slice none 0 0)], .lst e 13 n (mark13 l)]) → Calls Tryz.prog 18 vs.toArray w fun e w' => ∃ s H' B' x, Qs (s, H') ∧ B <+: B' ∧ e = .returned x ∧ s.to B' = some x ∧ Mem w bs H' B' w' := by
    intro c0 c1 c2 c3 c4 c5 c6 c7 c8 c9 c10 c11 c12 c13 c14 e n l B Qs hm hv hq
    refine (outs_ok [.ptr 0 0] _ _ rfl bs B w vs hm hv (fun r => r = (.ref 1, [.own [c0, c1, c2, c3, c4, c5, c6, c7, c8, c9, c10, c11, c12, c13, c14, .c (.slice none 0 0)], .lst e 13 n l])) ?_).mono ?_
    · rw [outs_run c0 c1 c2 c3 c4 c5 c6 c7 c8 c9 c10 c11 c12 c13 c14 e n l]; rfl
    · rintro e' w' ⟨s, H', B', x, hQ, h1, h2, h3, h4⟩
      simp only [Prod.mk.injEq] at hQ
      obtain ⟨rfl, rfl⟩ := hQ
      obtain ⟨u, hu⟩ := h4.sat.getB (k := 1) rfl
      refine ⟨_, _, B', x, hq, h1, h2, h3, h4.upd (k := 1) (y := .lst e 13 n (mark13 l)) rfl rfl hu ⟨rfl, rfl, rfl, Nat.le_refl _, fun _ _ _ => rfl⟩ rfl ?_⟩
      obtain ⟨xs, g1, g2⟩ := h4.sat.blk 1 _ u rfl hu
      exact ⟨xs, by rw [mark13_tos]; exact g1, g2⟩
  unfold fOuts at ht
  split at ht
  · simp only [Option.some.injEq] at ht
    subst ht
    exact key hm hv hq
  · rename_i o e n xs
    simp only [Option.some.injEq] at ht
    subst ht
    obtain ⟨u, hu⟩ := hm.sat.getB (k := 1) rfl
    refine key (hm.upd (k := 1) (y := .lst e 13 n (xs.map .v)) rfl rfl hu ⟨rfl, rfl, rfl, Nat.le_refl _, fun _ _ _ => rfl⟩ rfl ?_) hv hq
    exact ⟨xs, tos_plain _ _, hm.sat.blk 1 _ u rfl hu⟩
  · rename_i c0 c1 c2 c3 c4 c5 c6 c7 c8 c9 c10 c11 c12 c13 c14 s
    cases hb : isNilS (some s)
    · rw [hb] at ht; cases ht
    · rw [hb, cond_true, Option.some.injEq] at ht
      subst ht
      obtain ⟨s', hs', hnil⟩ := nil_to hb
      simp only [Option.some.injEq] at hs'
      subst hs'
      obtain ⟨u, hu⟩ := hm.sat.getB (k := 0) rfl
      have hm1 := hm.upd (k := 0) (y := .own [c0, c1, c2, c3, c4, c5, c6, c7, c8, c9, c10, c11, c12, c13, c14, .v (.slice none 0 0)]) rfl rfl hu ⟨rfl, rfl, rfl, Nat.le_refl _, fun _ _ _ => rfl⟩ rfl (by
        obtain ⟨b, us, g1, g2, g3⟩ := hm.sat.blk 0 _ u rfl hu
        refine ⟨b, us, g1, ?_, g3⟩
        rw [← g2]
        simp only [SV.tos, SV.to, hnil])
      refine (outs_ok [.ptr 0 0] [.own [c0, c1, c2, c3, c4, c5, c6, c7, c8, c9, c10, c11, c12, c13, c14, .v (.slice none 0 0)]] _ rfl bs B w vs hm1 hv (fun r => r = (.v (.slice none 0 0), [.own [c0, c1, c2, c3, c4, c5, c6, c7, c8, c9, c10, c11, c12, c13, c14, .c (.slice none 0 0)]])) ?_).mono ?_
      · show T.ok _ (runF Tryz.prog (CNil Tryz.prog) noL Tryz.f18 (Tryz.f18.body.getD .skip) [.ptr 0 0] [.own [c0, c1, c2, c3, c4, c5, c6, c7, c8, c9, c10, c11, c12, c13, c14, .v (.slice none 0 0)]])
        rw [outs0_run c0 c1 c2 c3 c4 c5 c6 c7 c8 c9 c10 c11 c12 c13 c14]; rfl
      · rintro e' w' ⟨s1, H', B', x, hQ, h1, h2, h3, h4⟩
        simp only [Prod.mk.injEq] at hQ
        obtain ⟨rfl, rfl⟩ := hQ
        exact ⟨_, _, B', x, hq, h1, h2, h3, h4⟩
  · cases ht
def addG (k : FuncId) (h : List SV → (Nat → Option Blk) → Option SV) (G : GTab) : GTab := fun f ss g n => bif Nat.beq f k then (h ss g).map fun s => .leaf (s, noEff) else G f ss g n
theorem addG_ok {P : Program} {k : FuncId} {h : List SV → (Nat → Option Blk) → Option SV} {G : GTab} (hG : GOk P G) (hg : isGo P k = true)
    (hh : ∀ ss g s, h ss g = some s → ∀ (w0 : World) (bs : List Nat) (H : List Blk) (B : List Value) (w : World) (vs : List Value), Mem w0 bs H B w → (∀ k x, g k = some x → H[k]? = some x) → SV.tos B ss = some vs → Calls P k vs.toArray w fun e w' => ∃ x, s.to B = some x ∧ e = .returned x ∧ Below w.heap.size w w') : GOk P (addG k h G) := by
  intro f ss g n t ht
  unfold addG at ht
  cases hb : Nat.beq f k
  · rw [hb] at ht; exact hG f ss g n t ht
  · rw [hb, cond_true, Option.map_eq_some_iff] at ht
    obtain rfl : f = k := Nat.eq_of_beq_eq_true hb
    obtain ⟨s, hs, rfl⟩ := ht
    refine ⟨hg, fun w0 bs H B w vs hm hsee hn hv Qs hq => (hh ss g s hs w0 bs H B w vs hm hsee hv).mono ?_⟩
    rintro e w' ⟨x, h1, rfl, h2⟩
    exact ⟨s, noEff, B, x, hq, List.prefix_refl _, rfl, h1, hm.below h2⟩
theorem ending_any (cl : Bool) (b : Nat) (w : World) (h : w.cell? ⟨b, 0, none⟩ = some (.bool cl)) : Calls Tryz.prog 97 #[.pointer (some ⟨b, 0, none⟩)] w fun e w' => e = .returned (.int .i64 (if cl = true then 6 else 5)) ∧ w = w' := by
  cases cl <;> (go_enter Tryz.func97, Tryz.ntmps97; go_wp2; go_ret; exact ⟨rfl, rfl⟩)
def gEnding : List SV → (Nat → Option Blk) → Option SV
  | [.ptr k 0], g => (match g k with
    | some (.own (.tt :: _)) => some (.c (.int .i64 6))
    | some (.own (.ff :: _)) => some (.c (.int .i64 5))
    | _ => none)
  | _, _ => none
theorem gEnding_ok : ∀ ss g s, gEnding ss g = some s → ∀ (w0 : World) (bs : List Nat) (H : List Blk) (B : List Value) (w : World) (vs : List Value), Mem w0 bs H B w → (∀ k x, g k = some x → H[k]? = some x) → SV.tos B ss = some vs → Calls Tryz.prog 97 vs.toArray w fun e w' => ∃ x, s.to B = some x ∧ e = .returned x ∧ Below w.heap.size w w' := by
  intro ss g s h w0 bs H B w vs hm hsee hv
  have key : ∀ {k : Nat} {c : SV} {l : List SV} {cl : Bool}, H[k]? = some (.own (c :: l)) → c.to B = some (.bool cl) → SV.tos B [.ptr k 0] = some vs → Calls Tryz.prog 97 vs.toArray w fun e w' => e = .returned (.int .i64 (if cl = true then 6 else 5)) ∧ w = w' := by
    intro k c l cl hk hc hv
    obtain ⟨b, us, g1, g2, g3⟩ := hm.own_at hk
    obtain ⟨x0, r0, e0, v0, rfl⟩ := tos_cons hv
    obtain rfl := tos_nil v0
    simp only [SV.to, g1, Option.some.injEq] at e0
    subst e0
    obtain ⟨x1, r1, e1, v1, rfl⟩ := tos_cons g2
    rw [hc, Option.some.injEq] at e1
    subst e1
    exact ending_any cl b w (by have := g3.2.1 0; simpa using this)
  unfold gEnding at h
  split at h
  · rename_i k
    split at h
    · rename_i l hk
      simp only [Option.some.injEq] at h
      subst h
      refine (key (cl := true) (hsee _ _ hk) rfl hv).mono ?_
      rintro e w' ⟨rfl, rfl⟩
      exact ⟨_, rfl, rfl, Below.refl _ _⟩
    · rename_i l hk
      simp only [Option.some.injEq] at h
      subst h
      refine (key (cl := false) (hsee _ _ hk) rfl hv).mono ?_
      rintro e w' ⟨rfl, rfl⟩
      exact ⟨_, rfl, rfl, Below.refl _ _⟩
    · cases h
  · cases h
end Go.Proofs.YtopeaafcepgnhaaGreat
namespace Go.Proofs.YtopeaafcepgnhaaGreat
open Go.RowKit Sym
theorem opP_nil : OpP 0 fun _ _ => undef := ⟨fun i hi => by omega, by unfold Few; refine ⟨?_, ?_⟩ <;> first | decide | (intro i hi; omega)⟩
theorem ckPL_nil (p : Pk) (h : p.data.size ≤ 1000000) : CkPL p 0 (fun _ _ => undef) := ⟨opP_nil, h⟩
end Go.Proofs.YtopeaafcepgnhaaGreat
namespace Go.Proofs.YtopeaafcepgnhaaGreat
open Go.RowKit Sym Go.ChangeShapes Go.WideShapes Go.ChangeMaps Inet
def difO (g h : Nat → Op) (i : Nat) : Bool := !(decide ((g i).kind = (h i).kind) && decide ((g i).val = (h i).val))
def sameO (n : Nat) (g : Nat → Op) (m : Nat) (h : Nat → Op) : Bool := decide (n = m) && !Nat.blt (firstOf (difO g h) n 0) n
def samePk (p q : Pk) : Bool := decide (p.long = q.long) && decide (p.kind = q.kind) && decide (p.src = q.src) && decide (p.dst = q.dst) && decide (p.ccval = q.ccval) && decide (p.cover = q.cover) && decide (p.seq = q.seq) && decide (p.ack = q.ack) && decide (p.service = q.service) && decide (p.code = q.code) && decide (p.detail = q.detail) && decide (p.data = q.data)
def sameP (p : Pk) (n : Nat) (g : Nat → Op) (q : Pk) (m : Nat) (h : Nat → Op) : Bool := samePk p q && sameO n g m h
def rs_st (p q : Pk) (n m : Nat) (g h : Nat → Op) (i : Int) : St := ⟨[(2, some (.ptr 2 0)), (3, some (.ptr 3 0)), (5, some (.v (.int .i64 i)))], [.row n 2 fun i j => (g i).c j, .row m 2 fun i j => (h i).c j,
  .own [.v (.int .i64 p.kind), .v (.bool p.long), .v (.int .i64 p.src), .v (.int .i64 p.dst), .v (.int .i64 p.ccval), .v (.int .i64 p.cover), .v (.int .i64 p.seq), .v (.int .i64 p.ack), .v (.int .i64 p.service), .v (.int .i64 p.code), .v (.int .i64 p.detail), .ref 0, .v (.string p.data)],
  .own [.v (.int .i64 q.kind), .v (.bool q.long), .v (.int .i64 q.src), .v (.int .i64 q.dst), .v (.int .i64 q.ccval), .v (.int .i64 q.cover), .v (.int .i64 q.seq), .v (.int .i64 q.ack), .v (.int .i64 q.service), .v (.int .i64 q.code), .v (.int .i64 q.detail), .ref 1, .v (.string q.data)]]⟩
set_option maxRecDepth 100000 in
theorem rs_round (p q : Pk) (n m : Nat) (g h : Nat → Op) (i : Int) : roundM Tryz.prog (onlyS Tryz.prog noS) noL Tryz.f47.ntmps 0 (loopAt Tryz.f47 0) 4 [2, 3, 5] [] [] (rs_st p q n m g h i) = .ite (decide (i < (↑n : Int))) (.need ((0 : Int) ≤ i ∧ i < (↑n : Int)) (.need (i.toNat < n) (.need ((0 : Int) ≤ i ∧ i < (↑m : Int)) (.need (i.toNat < m) (.ite (!(decide ((g i.toNat).1 = (h i.toNat).1) && (decide ((g i.toNat).2 = (h i.toNat).2) && true))) (.leaf (Ex.ret, St.mk [(4, some SV.ff), (30, some SV.tt), (30, some (SV.v (Value.bool !(decide ((g i.toNat).1 = (h i.toNat).1) && (decide ((g i.toNat).2 = (h i.toNat).2) && true))))), (29, some (SV.v (Value.agg (Array.mk [Value.int IntKind.i64 (h i.toNat).1, Value.string (h i.toNat).2])))), (28, some (SV.elt 1 2 i.toNat 0)), (27, some (.v (.int .i64 i))), (26, some (SV.ref 1)), (25, some (.ptr 3 11)), (24, some (SV.v (Value.agg (Array.mk [Value.int IntKind.i64 (g i.toNat).1, Value.string (g i.toNat).2])))), (23, some (SV.elt 0 2 i.toNat 0)), (22, some (.v (.int .i64 i))), (21, some (SV.ref 0)), (20, some (.ptr 2 11)), (17, some SV.tt), (17, some (SV.v (Value.bool (decide (i < (↑n : Int)))))), (16, some (.v (.int .i64 (↑n : Int)))), (15, some (SV.ref 0)), (14, some (.ptr 2 11)), (13, some (.v (.int .i64 i))), (2, some (.ptr 2 0)), (3, some (.ptr 3 0)), (5, some (.v (.int .i64 i)))] [Blk.row n 2 fun i j => (g i).c j, Blk.row m 2 fun i j => (h i).c j, .own [.v (.int .i64 p.1), SV.v (Value.bool p.2), .v (.int .i64 p.3), .v (.int .i64 p.4), .v (.int .i64 p.5), .v (.int .i64 p.6), .v (.int .i64 p.7), .v (.int .i64 p.8), .v (.int .i64 p.9), .v (.int .i64 p.10), .v (.int .i64 p.11), SV.ref 0, .v (.string p.12)], .own [.v (.int .i64 q.1), SV.v (Value.bool q.2), .v (.int .i64 q.3), .v (.int .i64 q.4), .v (.int .i64 q.5), .v (.int .i64 q.6), .v (.int .i64 q.7), .v (.int .i64 q.8), .v (.int .i64 q.9), .v (.int .i64 q.10), .v (.int .i64 q.11), SV.ref 1, .v (.string q.12)]])) (.leaf (Ex.normal, St.mk [(2, some (.ptr 2 0)), (3, some (.ptr 3 0)), (5, some (.v (.int .i64 (IntKind.i64.wrap (i + (1 : Int))))))] [Blk.row n 2 fun i j => (g i).c j, Blk.row m 2 fun i j => (h i).c j, .own [.v (.int .i64 p.1), SV.v (Value.bool p.2), .v (.int .i64 p.3), .v (.int .i64 p.4), .v (.int .i64 p.5), .v (.int .i64 p.6), .v (.int .i64 p.7), .v (.int .i64 p.8), .v (.int .i64 p.9), .v (.int .i64 p.10), .v (.int .i64 p.11), SV.ref 0, .v (.string p.12)], .own [.v (.int .i64 q.1), SV.v (Value.bool q.2), .v (.int .i64 q.3), .v (.int .i64 q.4), .v (.int .i64 q.5), .v (.int .i64 q.6), .v (.int .i64 q.7), .v (.int .i64 q.8), .v (.int .i64 q.9), .v (.int .i64 q.10), .v (.int .i64 q.11), SV.ref 1, .v (.string q.12)]]))))))) (.leaf (Ex.exit 0, St.mk [(2, some (.ptr 2 0)), (3, some (.ptr 3 0)), (5, some (.v (.int .i64 i)))] [Blk.row n 2 fun i j => (g i).c j, Blk.row m 2 fun i j => (h i).c j, .own [.v (.int .i64 p.1), SV.v (Value.bool p.2), .v (.int .i64 p.3), .v (.int .i64 p.4), .v (.int .i64 p.5), .v (.int .i64 p.6), .v (.int .i64 p.7), .v (.int .i64 p.8), .v (.int .i64 p.9), .v (.int .i64 p.10), .v (.int .i64 p.11), SV.ref 0, .v (.string p.12)], .own [.v (.int .i64 q.1), SV.v (Value.bool q.2), .v (.int .i64 q.3), .v (.int .i64 q.4), .v (.int .i64 q.5), .v (.int .i64 q.6), .v (.int .i64 q.7), .v (.int .i64 q.8), .v (.int .i64 q.9), .v (.int .i64 q.10), .v (.int .i64 q.11), SV.ref 1, .v (.string q.12)]])) := by kernel_rfl
def Lrs (P : Program) (fn : Func) (p q : Pk) (n m : Nat) (g h : Nat → Op) (e : Nat) : Nat → St → Option (T (Ex × St)) :=
  addL 0 (fun st => .need (n = m) (.need (st.H.length = 4) (.need (st.tidy 4 [2, 3, 5] [] [] = rs_st p q n m g h (0 : Nat)) ((roundM P (onlyS P noS) noL fn.ntmps 0 (loopAt fn 0) 4 [2, 3, 5] [] [] (closeAt [] (rs_st p q n m g h (e : Nat)))).bind (lastX 0))))) noL
set_option maxRecDepth 100000 in
theorem rs_run (p q : Pk) (n m : Nat) (g h : Nat → Op) (e : Nat) : runO Tryz.prog (onlyS Tryz.prog noS) (Lrs Tryz.prog Tryz.f47 p q n m g h e) Tryz.f47 [p.s (.ref 0), q.s (.ref 1)] [.row n 2 fun i j => (g i).c j, .row m 2 fun i j => (h i).c j] = .ite (!decide ((↑n : Int) = (↑m : Int))) (.leaf (Value.bool false)) (.need (n = m) (.need (4 = 4) (.need (St.mk [(2, some (.ptr 2 0)), (3, some (.ptr 3 0)), (5, some (.v (.int .i64 0)))] [Blk.row n 2 fun i j => (g i).c j, Blk.row m 2 fun i j => (h i).c j, .own [.v (.int .i64 p.1), SV.v (Value.bool p.2), .v (.int .i64 p.3), .v (.int .i64 p.4), .v (.int .i64 p.5), .v (.int .i64 p.6), .v (.int .i64 p.7), .v (.int .i64 p.8), .v (.int .i64 p.9), .v (.int .i64 p.10), .v (.int .i64 p.11), SV.ref 0, .v (.string p.12)], .own [.v (.int .i64 q.1), SV.v (Value.bool q.2), .v (.int .i64 q.3), .v (.int .i64 q.4), .v (.int .i64 q.5), .v (.int .i64 q.6), .v (.int .i64 q.7), .v (.int .i64 q.8), .v (.int .i64 q.9), .v (.int .i64 q.10), .v (.int .i64 q.11), SV.ref 1, .v (.string q.12)]] = rs_st p q n m g h (0 : Int)) (.ite (decide ((↑e : Int) < (↑n : Int))) (.need ((0 : Int) ≤ (↑e : Int) ∧ (↑e : Int) < (↑n : Int)) (.need ((↑e : Int).toNat < n) (.need ((0 : Int) ≤ (↑e : Int) ∧ (↑e : Int) < (↑m : Int)) (.need ((↑e : Int).toNat < m) (.ite (!(decide ((g (↑e : Int).toNat).1 = (h (↑e : Int).toNat).1) && (decide ((g (↑e : Int).toNat).2 = (h (↑e : Int).toNat).2) && true))) (.leaf (Value.bool false)) (T.stuck 39)))))) (.ite (decide (p.1 = q.1)) (.ite (decide (p.2 = q.2)) (.ite (decide (p.3 = q.3)) (.ite (decide (p.4 = q.4)) (.ite (decide (p.5 = q.5)) (.ite (decide (p.6 = q.6)) (.ite (decide (p.7 = q.7)) (.ite (decide (p.8 = q.8)) (.ite (decide (p.9 = q.9)) (.ite (decide (p.10 = q.10)) (.ite (decide (p.11 = q.11)) (.leaf (Value.bool (decide (p.12 = q.12)))) (.leaf (Value.bool false))) (.leaf (Value.bool false))) (.leaf (Value.bool false))) (.leaf (Value.bool false))) (.leaf (Value.bool false))) (.leaf (Value.bool false))) (.leaf (Value.bool false))) (.leaf (Value.bool false))) (.leaf (Value.bool false))) (.leaf (Value.bool false))) (.leaf (Value.bool false))))))) := by kernel_rfl
end Go.Proofs.YtopeaafcepgnhaaGreat
namespace Go.Proofs.YtopeaafcepgnhaaGreat
open Go.RowKit Sym Go.ChangeShapes Go.WideShapes Go.ChangeMaps Inet
theorem difO_no {g h : Nat → Op} {i : Nat} (e : difO g h i = false) : (g i).kind = (h i).kind ∧ (g i).val = (h i).val := by
  unfold difO at e
  simpa using e
theorem difO_yes {g h : Nat → Op} {i : Nat} (e : difO g h i = true) : ¬ ((g i).kind = (h i).kind ∧ (g i).val = (h i).val) := by
  unfold difO at e
  simp at e
  rintro ⟨a, b⟩
  rcases e with e | e
  · exact e a
  · exact e b
set_option maxRecDepth 100000 in
theorem rs_step (p q : Pk) (n m : Nat) (g h : Nat → Op) (hn : n ≤ maxLen) (hnm : n = m) : ∀ i : Nat, i ≤ firstOf (difO g h) n 0 → i ≠ firstOf (difO g h) n 0 → (roundM Tryz.prog (onlyS Tryz.prog noS) noL Tryz.f47.ntmps 0 (loopAt Tryz.f47 0) 4 [2, 3, 5] [] [] (rs_st p q n m g h (i : Nat))).ok fun r => r.1 = .normal ∧ ∃ j, j ≤ firstOf (difO g h) n 0 ∧ firstOf (difO g h) n 0 - j < firstOf (difO g h) n 0 - i ∧ r.2 = rs_st p q n m g h (j : Nat) := by
  intro i hi hne
  obtain ⟨he, h1, -⟩ := firstOf_le (difO g h) n
  unfold maxLen at hn
  obtain ⟨d1, d2⟩ := difO_no (h1 i (by omega))
  have hw : IntKind.i64.wrap ((i : Int) + 1) = ((i + 1 : Nat) : Int) := by rw [w64 _ (by omega) (by omega)]; rfl
  have fin : ∃ j, j ≤ firstOf (difO g h) n 0 ∧ firstOf (difO g h) n 0 - j < firstOf (difO g h) n 0 - i ∧ rs_st p q n m g h ((i + 1 : Nat) : Int) = rs_st p q n m g h (j : Nat) := ⟨i + 1, by omega, by omega, rfl⟩
  rw [rs_round]
  simp only [Int.toNat_natCast, hw, T.ok, decide_eq_true_eq, decide_eq_false_iff_not, d1, d2, decide_true, Bool.and_self, Bool.not_true]
  repeat' (first | refine And.intro ?_ ?_ | intro _)
  all_goals first | omega | exact ⟨rfl, fin⟩ | rfl | exact fin | contradiction
set_option maxRecDepth 100000 in
theorem ref10_same (p q : Pk) (n m : Nat) (g h : Nat → Op) (hn : n ≤ maxLen) (v u : Value) (w : World) (hv : ∀ B, BlkSat B w v (.row n 2 fun i j => (g i).c j)) (hu : ∀ B, BlkSat B w u (.row m 2 fun i j => (h i).c j)) : Calls Tryz.prog 47 #[p.v v, q.v u] w fun e w' => e = .returned (.bool (sameP p n g q m h)) ∧ Below w.heap.size w w' := by
  obtain ⟨he, h1, h2⟩ := firstOf_le (difO g h) n
  refine calls_runO (onlyS_ok noS_ok) follows Tryz.func47 (by kernel_rfl) (by kernel_rfl) (one_loop (b := loopAt Tryz.f47 0) (id := 0) (by kernel_rfl) fun st t hh => ?_) (rs_run p q n m g h (firstOf (difO g h) n 0)) ?_ (mem_rows hv hu) rfl
  · rw [addL_same hh]
    exact .need fun hnm => loop_cnt (onlyS_ok noS_ok) follows (by kernel_rfl) (noloops (by kernel_rfl)) (fun i => i ≤ firstOf (difO g h) n 0) (fun i => rs_st p q n m g h (i : Nat)) (fun i => firstOf (difO g h) n 0 - i) 4 [2, 3, 5] [] [] (firstOf (difO g h) n 0) [] (rs_step p q n m g h hn hnm) (Nat.zero_le _)
  · unfold maxLen at hn
    unfold sameP sameO samePk
    simp only [Int.toNat_natCast, T.ok, decide_eq_true_eq, decide_eq_false_iff_not, Bool.not_eq_true', Bool.not_eq_false', Bool.and_true]
    refine ⟨fun a => ?_, fun a => ⟨by omega, trivial, rfl, fun b => ⟨⟨by omega, by omega⟩, by omega, ⟨by omega, by omega⟩, by omega, fun c => ?_, fun c => ?_⟩, fun b => ?_⟩⟩
    · have : ¬ n = m := by omega
      simp [this]
    · have : Nat.blt (firstOf (difO g h) n 0) n = true := by rw [Nat.blt_eq]; omega
      simp [this]
    · have := difO_yes (h2 (by omega))
      simp only [Bool.and_eq_true, decide_eq_true_eq] at c
      exact this c
    · have e : Nat.blt (firstOf (difO g h) n 0) n = false := by rw [← Bool.not_eq_true, Nat.blt_eq]; omega
      have e2 : n = m := by omega
      rw [e]
      repeat' (first | refine And.intro ?_ ?_ | intro _)
      all_goals simp [*]
end Go.Proofs.YtopeaafcepgnhaaGreat
namespace Go.Proofs.YtopeaafcepgnhaaGreat
open Go.RowKit Sym
structure OL where
  n : Nat
  g : Nat → Op
def OL.nil : OL := ⟨0, fun _ => ⟨0, ⟨⟨[]⟩⟩⟩⟩
def OL.cat (a b : OL) : OL := ⟨a.n + b.n, fun i => if i < a.n then a.g i else b.g (i - a.n)⟩
structure QP where
  p : Pk
  o : OL
structure Cs where
  cl : Bool
  st : Int
  iss : Int
  isr : Int
  gss : Int
  gsr : Int
  gar : Int
  sv : Int
  asks : OL
  greets : OL
  wa : Int
  le : Int
  tr : Int
  sy : Bool
  li : Int
  outs : List QP
namespace Cs
def fin (c : Cs) (s : Int) : Cs := { c with st := s, wa := 0, le := 0, tr := 0, li := 0 }
def rest (c : Cs) (s : Int) : Cs := { c with st := s, wa := 0, le := 0, tr := 0 }
def wait (c : Cs) : Cs := { c with wa := 8, le := 8, tr := 0 }
def short (c : Cs) (k : Int) : Bool := decide (c.st = 3 ∧ (k = 2 ∨ k = 3 ∨ k = 4))
def ackOf (k a : Int) : Int := if Head.acks k = true then a else 0
def pkt (c : Cs) (k : Int) (d : ByteArray) (ack cd cc : Int) : Pk :=
  ⟨k, !c.short k, 0, 0, cc, 0, if c.short k = true then shortN (Circ.add c.gss 1) else Circ.add c.gss 1, if c.short k = true then shortN (ackOf k ack) else ackOf k ack, if k = 0 then c.sv else 0, cd, 0, d⟩
def send (c : Cs) (k : Int) (o : OL) (d : ByteArray) (ack cd cc : Int) : Cs :=
  { c with gss := Circ.add c.gss 1, outs := if c.outs.length < 50 then c.outs ++ [⟨c.pkt k d ack cd cc, o⟩] else c.outs }
def emp : ByteArray := ⟨⟨[]⟩⟩
def endK (c : Cs) : Int := if c.cl = true then 6 else 5
def say (c : Cs) : Cs :=
  if c.st = 1 then c.send 0 c.asks emp 0 0 0 else if c.st = 2 then c.send 3 c.greets emp c.gsr 0 0 else if c.st = 4 then c.send c.endK OL.nil emp c.gsr 0 0 else c
def greet (c : Cs) (l : OL) : Cs × Int :=
  if c.st = 2 then (if chkO l.n l.g = 0 then (({ c with greets := l } : Cs).say.wait, 0) else (c, chkO l.n l.g)) else (c, 10)
def mayK (c : Cs) (k : Int) : Int := if ¬ (k = 2 ∨ k = 3 ∨ k = 4) then 7 else if c.st = 3 ∨ c.st = 2 ∧ k = 3 then 0 else 10
def sayO (c : Cs) (l : OL) : OL := if c.st = 2 then c.greets.cat l else l
def sayE (c : Cs) (k : Int) (l : OL) (d : ByteArray) : Int :=
  if ¬ c.mayK k = 0 then c.mayK k else if ¬ chkO (c.sayO l).n (c.sayO l).g = 0 then chkO (c.sayO l).n (c.sayO l).g else if d.size > 200 then 11 else if k = 3 ∧ ¬ d.size = 0 then 4 else 0
def sayP (c : Cs) (k : Int) (l : OL) (d : ByteArray) (r : Int) : Cs × Int × Int :=
  if c.sayE k l d = 0 then (c.send k (c.sayO l) d c.gsr 0 (min (max r 0) 15), Circ.add c.gss 1, 0) else (c, 0, c.sayE k l d)
def close (c : Cs) : Cs × Int := if c.st = 3 ∨ c.st = 2 then (({ c with st := 4 } : Cs).say.wait, 0) else (c, 10)
def abort (c : Cs) (code : Int) : Cs × Int :=
  if c.st = 0 ∨ c.st = 5 then (c, 10) else if c.st = 1 then (c.fin 0, 0) else ((c.send 7 OL.nil emp c.gsr (min (max code 0) 255) 0).fin 0, 0)
structure Nw where
  kind : Int
  seq : Int
  ack : Int
  up : Bool
  over : Bool
  data : Bool
def Nw.no : Nw := ⟨0, 0, 0, false, false, false⟩
def seqN (c : Cs) (p : Pk) : Int := if p.long = true then p.seq else longN c.gsr p.seq
def ackN (c : Cs) (p : Pk) : Int := if p.long = true then p.ack else if Head.acks p.kind = true then longN c.gss p.ack else p.ack
def answered (c : Cs) (p : Pk) : Cs × Nw × Int :=
  if ¬ (p.kind = 1 ∨ p.kind = 7) then (c, .no, 10)
  else if Circ.within p.ack c.iss c.gss = false then (c, .no, 13)
  else if p.kind = 7 then (c.fin 0, ⟨p.kind, p.seq, p.ack, false, true, false⟩, 0)
  else if ¬ p.service = c.sv then (c, .no, 15)
  else ({ c with st := 2, wa := 0, le := 0, tr := 0, iss := Circ.of c.iss, isr := Circ.of p.seq, gss := Circ.of c.gss, gsr := Circ.of p.seq, gar := p.ack }, ⟨p.kind, p.seq, p.ack, false, false, false⟩, 0)
def came (c : Cs) (k s a : Int) : Cs := { c with gsr := Circ.later c.gsr s, gar := garOf k a c.gar }
def upB (c : Cs) (k : Int) : Bool := decide (c.st = 2 ∧ ¬ (k = 8 ∨ k = 7 ∨ k = 6))
def open' (c : Cs) (k : Int) : Cs := if c.upB k = true then c.rest 3 else c
def turn (c : Cs) (k s : Int) : Cs :=
  if k = 8 then c.send 9 OL.nil emp s 0 0 else if k = 5 then ({ c with st := 4 } : Cs).say.wait else if k = 6 then (c.send 7 OL.nil emp c.gsr 1 0).fin 0 else if k = 7 then c.fin 5 else c
def takeE (c : Cs) (k s a : Int) : Int := if k = 0 ∨ k = 1 ∨ k = 5 ∧ c.cl = false then 10 else Span.valid ⟨c.iss, c.isr, c.gss, c.gsr, c.gar⟩ k s a
def asksB (c : Cs) (k : Int) : Bool := decide (¬ (k = 0 ∨ k = 1 ∨ k = 5 ∧ c.cl = false) ∧ ¬ (k = 8 ∨ k = 9 ∨ k = 7) ∧ c.sy = false)
def taken (c : Cs) (k s a : Int) : Cs × Nw × Int :=
  if c.takeE k s a = 0 then
    (((c.came k s a).open' k).turn k s, ⟨k, s, a, c.upB k, decide (k = 6 ∨ k = 7), decide ((((c.came k s a).open' k).turn k s).st = 3 ∧ (k = 2 ∨ k = 4))⟩, 0)
  else if c.asksB k = true then (({ c with sy := true } : Cs).send 8 OL.nil emp s 0 0, .no, c.takeE k s a) else (c, .no, c.takeE k s a)
def take (c : Cs) (p : Pk) (o : OL) : Cs × Nw × Int :=
  if ¬ chkP p o.n o.g = 0 then (c, .no, 4) else if c.st = 0 ∨ c.st = 5 then (c, .no, 10) else if c.st = 1 then c.answered p else c.taken p.kind (c.seqN p) (c.ackN p)
def tick (c : Cs) : Cs × Bool :=
  let c := { c with sy := false }
  if c.st = 5 then (if c.li + 1 ≥ 16 then (c.fin 0, false) else ({ c with li := c.li + 1 }, false))
  else if c.wa = 0 then (c, false)
  else if 0 < c.le - 1 then ({ c with le := c.le - 1 }, false)
  else if c.tr < 6 then (({ c with wa := min (2 * c.wa) 64, le := min (2 * c.wa) 64, tr := c.tr + 1 } : Cs).say, false)
  else if c.st = 2 then ((c.send 7 OL.nil emp c.gsr 4 0).fin 0, true) else (c.fin 0, true)
def dial (iss sv : Int) (l : OL) : Cs :=
  (⟨true, 1, Circ.of iss, 0, Circ.of (Circ.add iss (-1)), 0, Circ.of iss, sv, l, OL.nil, 8, 8, 0, false, 0, []⟩ : Cs).send 0 l emp 0 0 0
def adopt (iss isr gsr : Int) : Cs := ⟨false, 3, Circ.of iss, Circ.of isr, Circ.of iss, Circ.of gsr, Circ.of iss, 0, OL.nil, OL.nil, 0, 0, 0, false, 0, []⟩
end Cs
end Go.Proofs.YtopeaafcepgnhaaGreat
namespace Go.Proofs.YtopeaafcepgnhaaGreat.Sym
open Go.RowKit
def inlC (P : Program) (C : Cfg) (L : Nat → St → Option (T (Ex × St))) (fn : Func) : List SV → List Blk → Option (T (SV × List Blk)) := fun ss H => some (canT H.length (runF P C L fn (fn.body.getD .skip) ss H))
theorem inlC_ok {P : Program} {C : Cfg} (hC : CfgOk P C) (hP : P.follows .mixedOrders = true) {L : Nat → St → Option (T (Ex × St))} {f : FuncId} {fn : Func} (hf : P.funcs[f]? = some fn) (hb : fn.body.isSome = true) (hlex : lexAll C (fn.body.getD .skip) = true)
    (hL : ∀ id body, (id, body) ∈ loopsOf (fn.body.getD .skip) → ∀ st t, L id st = some t → RunOk P fn.ntmps (.block id (.loop body)) st t) : EntryOk P f (inlC P C L fn) := by
  intro ss H t h bs B w vs hm hvs Qs hq
  simp only [inlC, Option.some.injEq] at h
  exact canT_ok hC hP hf hb hlex hL h hm hvs hq
theorem canT_okn {P : Program} {C : Cfg} (hC : CfgOk P C) (hP : P.follows .mixedOrders = true) {L : Nat → St → Option (T (Ex × St))} {f : FuncId} {fn : Func} (hf : P.funcs[f]? = some fn) (hb : fn.body.isSome = true) (hlex : lexAll C (fn.body.getD .skip) = true)
    (hL : ∀ id body, (id, body) ∈ loopsOf (fn.body.getD .skip) → ∀ st t, L id st = some t → RunOk P fn.ntmps (.block id (.loop body)) st t)
    {ss : List SV} {H : List Blk} {n0 : Nat} {Qs : SV × List Blk → Prop} (hq : (canT n0 (runF P C L fn (fn.body.getD .skip) ss H)).ok Qs) (hn : H.length = n0) {bs : List Nat} {B : List Value} {w : World} {vs : List Value} (hm : Mem w bs H B w) (hvs : SV.tos B ss = some vs) :
    Calls P f vs.toArray w fun e w' => ∃ s H' B' x, Qs (s, H') ∧ B <+: B' ∧ e = .returned x ∧ s.to B' = some x ∧ Mem w bs H' B' w' := by
  subst hn
  exact canT_ok hC hP hf hb hlex hL rfl hm hvs hq
end Go.Proofs.YtopeaafcepgnhaaGreat.Sym
namespace Go.Proofs.YtopeaafcepgnhaaGreat
open Go.RowKit Sym Go.ChangeShapes Go.WideShapes Go.ChangeMaps
abbrev csS (c : Cs) (st : SV) (a g o : SV) : List SV := [.v (.bool c.cl), st, .v (.int .i64 c.iss), .v (.int .i64 c.isr), .v (.int .i64 c.gss), .v (.int .i64 c.gsr), .v (.int .i64 c.gar), .v (.int .i64 c.sv), a, g, .v (.int .i64 c.wa), .v (.int .i64 c.le), .v (.int .i64 c.tr), .v (.bool c.sy), .v (.int .i64 c.li), o]
def addGT (k : FuncId) (h : List SV → (Nat → Option Blk) → Option (T SV)) (G : GTab) : GTab := fun f ss g n => bif Nat.beq f k then (h ss g).map fun t => t.bind fun s => .leaf (s, noEff) else G f ss g n
theorem addGT_ok {P : Program} {k : FuncId} {h : List SV → (Nat → Option Blk) → Option (T SV)} {G : GTab} (hG : GOk P G) (hg : isGo P k = true)
    (hh : ∀ ss g t, h ss g = some t → ∀ (w0 : World) (bs : List Nat) (H : List Blk) (B : List Value) (w : World) (vs : List Value), Mem w0 bs H B w → (∀ k x, g k = some x → H[k]? = some x) → SV.tos B ss = some vs → ∀ Qs : SV → Prop, t.ok Qs → Calls P k vs.toArray w fun e w' => ∃ s x, Qs s ∧ s.to B = some x ∧ e = .returned x ∧ Below w.heap.size w w') : GOk P (addGT k h G) := by
  intro f ss g n t ht
  unfold addGT at ht
  cases hb : Nat.beq f k
  · rw [hb] at ht; exact hG f ss g n t ht
  · rw [hb, cond_true, Option.map_eq_some_iff] at ht
    obtain rfl : f = k := Nat.eq_of_beq_eq_true hb
    obtain ⟨s, hs, rfl⟩ := ht
    refine ⟨hg, fun w0 bs H B w vs hm hsee hn hv Qs hq => (hh ss g s hs w0 bs H B w vs hm hsee hv (fun s => Qs (s, noEff)) (T.ok_bind hq)).mono ?_⟩
    rintro e w' ⟨s, x, h0, h1, rfl, h2⟩
    exact ⟨s, noEff, B, x, h0, List.prefix_refl _, rfl, h1, hm.below h2⟩
def gEndT : List SV → (Nat → Option Blk) → Option (T SV)
  | [.ptr k 0], g => (match g k with
    | some (.own (.v (.bool b) :: _)) => some (.ite b (.leaf (.c (.int .i64 6))) (.leaf (.c (.int .i64 5))))
    | _ => none)
  | _, _ => none
theorem gEndT_ok : ∀ ss g t, gEndT ss g = some t → ∀ (w0 : World) (bs : List Nat) (H : List Blk) (B : List Value) (w : World) (vs : List Value), Mem w0 bs H B w → (∀ k x, g k = some x → H[k]? = some x) → SV.tos B ss = some vs → ∀ Qs : SV → Prop, t.ok Qs → Calls Tryz.prog 97 vs.toArray w fun e w' => ∃ s x, Qs s ∧ s.to B = some x ∧ e = .returned x ∧ Below w.heap.size w w' := by
  intro ss g t h w0 bs H B w vs hm hsee hv Qs hq
  unfold gEndT at h
  split at h
  · rename_i k
    split at h
    · rename_i b l hk
      simp only [Option.some.injEq] at h
      subst h
      obtain ⟨k', us, g1, g2, g3⟩ := hm.own_at (hsee _ _ hk)
      obtain ⟨x0, r0, e0, v0, rfl⟩ := tos_cons hv
      obtain rfl := tos_nil v0
      simp only [SV.to, g1, Option.some.injEq] at e0
      subst e0
      obtain ⟨x1, r1, e1, v1, rfl⟩ := tos_cons g2
      simp only [SV.to, Option.some.injEq] at e1
      subst e1
      refine (ending_any b k' w (by have := g3.2.1 0; simpa using this)).mono ?_
      rintro e w' ⟨rfl, rfl⟩
      cases b with
      | true => exact ⟨_, _, hq.1 rfl, rfl, rfl, Below.refl _ _⟩
      | false => exact ⟨_, _, hq.2 rfl, rfl, rfl, Below.refl _ _⟩
    · cases h
  · cases h
def seqP (long : Bool) (gsr s : Int) : Int := if long = true then s else longN gsr s
def ackP (long : Bool) (k gss a : Int) : Int := if long = true then a else if Head.acks k = true then longN gss a else a
set_option maxRecDepth 100000 in
theorem numbers_run (c0 c1 c2 c3 c6 c7 c8 c9 c10 c11 c12 c13 c14 c15 : SV) (gss gsr : Int) (p : Pk) (o : Value) : runF Tryz.prog (both Tryz.prog SCn0 noF []) noL Tryz.f62 (Tryz.f62.body.getD .skip) [.ptr 0 0, p.s (.v o)] [.own [c0, c1, c2, c3, .v (.int .i64 gss), .v (.int .i64 gsr), c6, c7, c8, c9, c10, c11, c12, c13, c14, c15]] = .ite (!p.2) (.ite (Head.acks p.1) (.leaf (SV.v (Value.tuple (Array.mk [Value.int IntKind.i64 (longN gsr p.7), Value.int IntKind.i64 (longN gss p.8)])), [.own [c0, c1, c2, c3, .v (.int .i64 gss), .v (.int .i64 gsr), c6, c7, c8, c9, c10, c11, c12, c13, c14, c15], .own [.v (.int .i64 p.1), SV.v (Value.bool p.2), .v (.int .i64 p.3), .v (.int .i64 p.4), .v (.int .i64 p.5), .v (.int .i64 p.6), .v (.int .i64 p.7), .v (.int .i64 p.8), .v (.int .i64 p.9), .v (.int .i64 p.10), .v (.int .i64 p.11), SV.v o, .v (.string p.12)]])) (.leaf (SV.v (Value.tuple (Array.mk [Value.int IntKind.i64 (longN gsr p.7), Value.int IntKind.i64 p.8])), [.own [c0, c1, c2, c3, .v (.int .i64 gss), .v (.int .i64 gsr), c6, c7, c8, c9, c10, c11, c12, c13, c14, c15], .own [.v (.int .i64 p.1), SV.v (Value.bool p.2), .v (.int .i64 p.3), .v (.int .i64 p.4), .v (.int .i64 p.5), .v (.int .i64 p.6), .v (.int .i64 p.7), .v (.int .i64 p.8), .v (.int .i64 p.9), .v (.int .i64 p.10), .v (.int .i64 p.11), SV.v o, .v (.string p.12)]]))) (.leaf (SV.v (Value.tuple (Array.mk [Value.int IntKind.i64 p.7, Value.int IntKind.i64 p.8])), [.own [c0, c1, c2, c3, .v (.int .i64 gss), .v (.int .i64 gsr), c6, c7, c8, c9, c10, c11, c12, c13, c14, c15], .own [.v (.int .i64 p.1), SV.v (Value.bool p.2), .v (.int .i64 p.3), .v (.int .i64 p.4), .v (.int .i64 p.5), .v (.int .i64 p.6), .v (.int .i64 p.7), .v (.int .i64 p.8), .v (.int .i64 p.9), .v (.int .i64 p.10), .v (.int .i64 p.11), SV.v o, .v (.string p.12)]])) := by kernel_rfl
theorem mem_own1 {w : World} {b : Nat} {vs : List Value} (h : Own w b vs.toArray) : Mem w [b] [.own (vs.map .v)] [.pointer (some ⟨b, 0, none⟩)] w := by
  refine ⟨⟨rfl, fun k x u h1 h2 => ?_, fun k j c h1 h2 => ?_, fun k j c h1 h2 => ?_⟩, .refl _ _, fun k c h1 => ?_⟩
  · match k with
    | 0 =>
      simp only [List.getElem?_cons_zero, Option.some.injEq] at h1 h2
      subst h1 h2
      exact ⟨b, vs, rfl, tos_plain _ _, h⟩
    | k + 1 => simp at h1
  · obtain ⟨x, u, g1, -⟩ := h1
    obtain ⟨y, v, g2, -⟩ := h2
    match k, j with
    | 0, 0 => rfl
    | 0, j + 1 => simp at g2
    | k + 1, _ => simp at g1
  · obtain ⟨n, sz, f, u, g1, -⟩ := h2
    match j with
    | 0 => simp at g1
    | j + 1 => simp at g1
  · obtain ⟨x, u, g1, g2, g3, g4⟩ := h1
    match k with
    | 0 =>
      simp only [List.getElem?_cons_zero, Option.some.injEq] at g3
      subst g3
      simp only [blockOf, Option.some.injEq] at g4
      subst g4
      exact .inl (List.mem_singleton.2 rfl)
    | k + 1 => simp at g1
theorem CNum_ok : CfgOk Tryz.prog (both Tryz.prog SCn0 noF []) := both_ok SCn0_ok noF_ok
theorem numbers_any (x0 x1 x2 x3 x6 x7 x8 x9 x10 x11 x12 x13 x14 x15 : Value) (gss gsr : Int) (p : Pk) (o : Value) (b : Nat) (w : World) (h : Own w b #[x0, x1, x2, x3, .int .i64 gss, .int .i64 gsr, x6, x7, x8, x9, x10, x11, x12, x13, x14, x15]) :
    Calls Tryz.prog 62 #[.pointer (some ⟨b, 0, none⟩), p.v o] w fun e w' => e = .returned (.tuple #[.int .i64 (seqP p.long gsr p.seq), .int .i64 (ackP p.long p.kind gss p.ack)]) ∧ Keeps [b] w w' ∧ Own w' b #[x0, x1, x2, x3, .int .i64 gss, .int .i64 gsr, x6, x7, x8, x9, x10, x11, x12, x13, x14, x15] := by
  have hm : Mem w [b] [.own [.v x0, .v x1, .v x2, .v x3, .v (.int .i64 gss), .v (.int .i64 gsr), .v x6, .v x7, .v x8, .v x9, .v x10, .v x11, .v x12, .v x13, .v x14, .v x15]] [.pointer (some ⟨b, 0, none⟩)] w := mem_own1 (vs := [x0, x1, x2, x3, .int .i64 gss, .int .i64 gsr, x6, x7, x8, x9, x10, x11, x12, x13, x14, x15]) h
  have E : EntryOk Tryz.prog 62 (inl Tryz.prog (both Tryz.prog SCn0 noF []) noL Tryz.f62) := inl_ok CNum_ok follows Tryz.func62 (by kernel_rfl) (lexAllF_ok (by kernel_rfl)) (noloops (by kernel_rfl))
  have hv : SV.tos [.pointer (some ⟨b, 0, none⟩)] [.ptr 0 0, p.s (.v o)] = some [.pointer (some ⟨b, 0, none⟩), p.v o] := by simp [SV.tos, SV.to, Pk.v]
  have hrun := numbers_run (.v x0) (.v x1) (.v x2) (.v x3) (.v x6) (.v x7) (.v x8) (.v x9) (.v x10) (.v x11) (.v x12) (.v x13) (.v x14) (.v x15) gss gsr p o
  refine (E [.ptr 0 0, p.s (.v o)] [.own [.v x0, .v x1, .v x2, .v x3, .v (.int .i64 gss), .v (.int .i64 gsr), .v x6, .v x7, .v x8, .v x9, .v x10, .v x11, .v x12, .v x13, .v x14, .v x15]] _ rfl [b] _ w _ hm hv (fun r => r.1 = .v (.tuple #[.int .i64 (seqP p.long gsr p.seq), .int .i64 (ackP p.long p.kind gss p.ack)]) ∧ r.2[0]? = some (.own [.v x0, .v x1, .v x2, .v x3, .v (.int .i64 gss), .v (.int .i64 gsr), .v x6, .v x7, .v x8, .v x9, .v x10, .v x11, .v x12, .v x13, .v x14, .v x15])) ?_).mono ?_
  · rw [hrun]
    refine t_ite (fun h1 => t_ite (fun h2 => t_leaf ⟨?_, rfl⟩) fun h2 => t_leaf ⟨?_, rfl⟩) fun h1 => t_leaf ⟨?_, rfl⟩
    all_goals
      simp only [Bool.not_eq_true', Bool.not_eq_false'] at h1
      simp [seqP, ackP, *]
  · rintro e w' ⟨s, H', B', x, ⟨h1, h0⟩, h2, rfl, h3, h4⟩
    subst h1
    simp only [SV.to, Option.some.injEq] at h3
    subst h3
    refine ⟨rfl, h4.keeps, ?_⟩
    obtain ⟨b', us, g1, g2, g3⟩ := h4.own_at h0
    have hb : B'[0]? = some (.pointer (some ⟨b, 0, none⟩)) := getElem?_prefix h2 rfl
    rw [g1] at hb
    simp only [Option.some.injEq, Value.pointer.injEq, Addr.mk.injEq, and_true] at hb
    subst hb
    simp only [SV.tos, SV.to, Option.some.injEq] at g2
    subst g2
    exact g3
def fNum : List SV → List Blk → Option (T (SV × List Blk))
  | [.ptr 0 0, P], .own [c0, c1, c2, c3, .v (.int .i64 gss), .v (.int .i64 gsr), c6, c7, c8, c9, c10, c11, c12, c13, c14, c15] :: R => (aggOf P).bind fun l => (pkOf l).bind fun r =>
      some (.leaf (.v (.tuple #[.int .i64 (seqP r.1.long gsr r.1.seq), .int .i64 (ackP r.1.long r.1.kind gss r.1.ack)]), .own [c0, c1, c2, c3, .v (.int .i64 gss), .v (.int .i64 gsr), c6, c7, c8, c9, c10, c11, c12, c13, c14, c15] :: R))
  | _, _ => none
theorem fNum_ok : EntryOk Tryz.prog 62 fNum := by
  intro ss H t ht bs B w vs hm hv Qs hq
  unfold fNum at ht
  split at ht
  · rename_i P c0 c1 c2 c3 gss gsr c6 c7 c8 c9 c10 c11 c12 c13 c14 c15 R
    simp only [Option.bind_eq_some_iff, Option.some.injEq] at ht
    obtain ⟨l, hl, ⟨p, so⟩, hp, rfl⟩ := ht
    obtain ⟨b, us, g1, g2, g3⟩ := hm.own_at (k := 0) rfl
    obtain ⟨x0, r0, e0, v0, rfl⟩ := tos_cons hv
    obtain ⟨x1, r1, e1, v1, rfl⟩ := tos_cons v0
    obtain rfl := tos_nil v1
    simp only [SV.to, g1, Option.some.injEq] at e0
    subst e0
    obtain ⟨ps, hps, rfl⟩ := aggOf_ok e1 hl
    have e := pkOf_ok hp
    have hpv : (SV.agg l).to B = some (.agg ps.toArray) := by simp [SV.to, hps]
    rw [e] at hpv
    obtain ⟨o, ho⟩ : ∃ o, so.to B = some o := by
      cases hso : so.to B with
      | some o => exact ⟨o, rfl⟩
      | none => simp [Pk.s, SV.to, SV.tos, hso] at hpv
    rw [Pk.s_to p ho, Option.some.injEq] at hpv
    rw [← hpv]
    have g2' := g2
    obtain ⟨u0, q0, f0, y0, rfl⟩ := tos_cons g2
    obtain ⟨u1, q1, f1, y1, rfl⟩ := tos_cons y0
    obtain ⟨u2, q2, f2, y2, rfl⟩ := tos_cons y1
    obtain ⟨u3, q3, f3, y3, rfl⟩ := tos_cons y2
    obtain ⟨u4, q4, f4, y4, rfl⟩ := tos_cons y3
    obtain ⟨u5, q5, f5, y5, rfl⟩ := tos_cons y4
    obtain ⟨u6, q6, f6, y6, rfl⟩ := tos_cons y5
    obtain ⟨u7, q7, f7, y7, rfl⟩ := tos_cons y6
    obtain ⟨u8, q8, f8, y8, rfl⟩ := tos_cons y7
    obtain ⟨u9, q9, f9, y9, rfl⟩ := tos_cons y8
    obtain ⟨u10, q10, f10, y10, rfl⟩ := tos_cons y9
    obtain ⟨u11, q11, f11, y11, rfl⟩ := tos_cons y10
    obtain ⟨u12, q12, f12, y12, rfl⟩ := tos_cons y11
    obtain ⟨u13, q13, f13, y13, rfl⟩ := tos_cons y12
    obtain ⟨u14, q14, f14, y14, rfl⟩ := tos_cons y13
    obtain ⟨u15, q15, f15, y15, rfl⟩ := tos_cons y14
    obtain rfl := tos_nil y15
    simp only [SV.to, Option.some.injEq] at f4 f5
    subst f4 f5
    refine (numbers_any u0 u1 u2 u3 u6 u7 u8 u9 u10 u11 u12 u13 u14 u15 gss gsr p o b w g3).mono ?_
    rintro e' w' ⟨rfl, hk, hown⟩
    refine ⟨_, _, B, _, hq, List.prefix_refl _, rfl, rfl, ?_⟩
    have := hm.upd (k := 0) (y := .own [c0, c1, c2, c3, .v (.int .i64 gss), .v (.int .i64 gsr), c6, c7, c8, c9, c10, c11, c12, c13, c14, c15]) (w' := w') rfl rfl g1 ⟨hk.os, hk.tape, hk.output, hk.size, fun k hk' hne => hk.block k hk' (by intro hin; rw [List.mem_singleton] at hin; subst hin; exact hne rfl)⟩ rfl ⟨b, _, rfl, g2', hown⟩
    exact this
  · cases ht
end Go.Proofs.YtopeaafcepgnhaaGreat
namespace Go.Proofs.YtopeaafcepgnhaaGreat
open Go.RowKit Sym Go.ChangeShapes Go.WideShapes Go.ChangeMaps Inet Go.Deep
theorem slice_cell {H : Type} {enc : TypeId × Value → H} {W : World} {base fuel : Nat} {sp : Nat → Bool} {e t : TypeId} {c : Value} {y : DataW H × List MemPlace} (ht : Tryz.prog.underlying t = some (.slice e)) (hy : DataW.trod enc Tryz.prog W base sp true fuel t [c] = some y) : (∃ a len cap, c = .slice a len cap) ∧ DataW.Trod enc Tryz.prog W base sp true t c y.1 y.2 := by
  have h : ∃ a len cap, c = .slice a len cap := by
    rcases open_slice ht hy with ⟨h0, _⟩ | ⟨a, len, cap, m, k, D, Pl, h0, -⟩
    · simp only [List.cons.injEq, and_true] at h0; exact ⟨_, _, _, h0⟩
    · simp only [List.cons.injEq, and_true] at h0; exact ⟨_, _, _, h0⟩
  obtain ⟨a, len, cap, rfl⟩ := h
  exact ⟨⟨_, _, _, rfl⟩, fuel, hy⟩
def Pk.l (p : Pk) (o : Value) : List Value := [.int .i64 p.kind, .bool p.long, .int .i64 p.src, .int .i64 p.dst, .int .i64 p.ccval, .int .i64 p.cover, .int .i64 p.seq, .int .i64 p.ack, .int .i64 p.service, .int .i64 p.code, .int .i64 p.detail, o, .string p.data]
set_option maxRecDepth 100000 in
theorem trod_pk {H : Type} {enc : TypeId × Value → H} {W : World} {base fuel : Nat} {sp : Nat → Bool} {cs : List Value} {y0 : DataW H × List MemPlace} (hl : cs.length = 13) (hf : DataW.trod enc Tryz.prog W base sp true fuel 36 cs = some y0) :
    ∃ (q : Pk) (o : Value) (n : Nat) (g : Nat → Op), cs = q.l o ∧ n ≤ maxLen ∧ (∀ i, (g i).val.size ≤ maxLen) ∧ q.data.size ≤ maxLen ∧ ∀ B, BlkSat B W o (.row n 2 fun i j => (g i).c j) := by
  match cs, hl with
  | [kind_c, long_c, src_c, dst_c, ccval_c, cover_c, seq_c, ack_c, service_c, code_c, detail_c, opts_c, data_c], _ =>
  obtain ⟨xs, n, _, _, _, hlen, hg⟩ := DataW.trod_struct Tryz.underlying36 hf
  obtain ⟨y, hy⟩ : ∃ y, xs[0]? = some y := ⟨_, List.getElem?_eq_getElem (by rw [hlen]; decide)⟩
  rw [← hg 0 _ rfl] at hy
  simp [List.range_succ, show Tryz.prog.cellsOf 3 = 1 from by kernel_rfl] at hy
  obtain ⟨kind, e, _, w_kind⟩ := DataW.trod_int Tryz.underlying3 hy
  simp at e
  subst e
  clear hy
  obtain ⟨y, hy⟩ : ∃ y, xs[1]? = some y := ⟨_, List.getElem?_eq_getElem (by rw [hlen]; decide)⟩
  rw [← hg 1 _ rfl] at hy
  simp [List.range_succ, show Tryz.prog.cellsOf 4 = 1 from by kernel_rfl] at hy
  obtain ⟨long, e, _⟩ := DataW.trod_bool Tryz.underlying4 hy
  simp at e
  subst e
  clear hy
  obtain ⟨y, hy⟩ : ∃ y, xs[2]? = some y := ⟨_, List.getElem?_eq_getElem (by rw [hlen]; decide)⟩
  rw [← hg 2 _ rfl] at hy
  simp [List.range_succ, show Tryz.prog.cellsOf 3 = 1 from by kernel_rfl] at hy
  obtain ⟨src, e, _, w_src⟩ := DataW.trod_int Tryz.underlying3 hy
  simp at e
  subst e
  clear hy
  obtain ⟨y, hy⟩ : ∃ y, xs[3]? = some y := ⟨_, List.getElem?_eq_getElem (by rw [hlen]; decide)⟩
  rw [← hg 3 _ rfl] at hy
  simp [List.range_succ, show Tryz.prog.cellsOf 3 = 1 from by kernel_rfl] at hy
  obtain ⟨dst, e, _, w_dst⟩ := DataW.trod_int Tryz.underlying3 hy
  simp at e
  subst e
  clear hy
  obtain ⟨y, hy⟩ : ∃ y, xs[4]? = some y := ⟨_, List.getElem?_eq_getElem (by rw [hlen]; decide)⟩
  rw [← hg 4 _ rfl] at hy
  simp [List.range_succ, show Tryz.prog.cellsOf 3 = 1 from by kernel_rfl] at hy
  obtain ⟨ccval, e, _, w_ccval⟩ := DataW.trod_int Tryz.underlying3 hy
  simp at e
  subst e
  clear hy
  obtain ⟨y, hy⟩ : ∃ y, xs[5]? = some y := ⟨_, List.getElem?_eq_getElem (by rw [hlen]; decide)⟩
  rw [← hg 5 _ rfl] at hy
  simp [List.range_succ, show Tryz.prog.cellsOf 3 = 1 from by kernel_rfl] at hy
  obtain ⟨cover, e, _, w_cover⟩ := DataW.trod_int Tryz.underlying3 hy
  simp at e
  subst e
  clear hy
  obtain ⟨y, hy⟩ : ∃ y, xs[6]? = some y := ⟨_, List.getElem?_eq_getElem (by rw [hlen]; decide)⟩
  rw [← hg 6 _ rfl] at hy
  simp [List.range_succ, show Tryz.prog.cellsOf 3 = 1 from by kernel_rfl] at hy
  obtain ⟨seq, e, _, w_seq⟩ := DataW.trod_int Tryz.underlying3 hy
  simp at e
  subst e
  clear hy
  obtain ⟨y, hy⟩ : ∃ y, xs[7]? = some y := ⟨_, List.getElem?_eq_getElem (by rw [hlen]; decide)⟩
  rw [← hg 7 _ rfl] at hy
  simp [List.range_succ, show Tryz.prog.cellsOf 3 = 1 from by kernel_rfl] at hy
  obtain ⟨ack, e, _, w_ack⟩ := DataW.trod_int Tryz.underlying3 hy
  simp at e
  subst e
  clear hy
  obtain ⟨y, hy⟩ : ∃ y, xs[8]? = some y := ⟨_, List.getElem?_eq_getElem (by rw [hlen]; decide)⟩
  rw [← hg 8 _ rfl] at hy
  simp [List.range_succ, show Tryz.prog.cellsOf 3 = 1 from by kernel_rfl] at hy
  obtain ⟨service, e, _, w_service⟩ := DataW.trod_int Tryz.underlying3 hy
  simp at e
  subst e
  clear hy
  obtain ⟨y, hy⟩ : ∃ y, xs[9]? = some y := ⟨_, List.getElem?_eq_getElem (by rw [hlen]; decide)⟩
  rw [← hg 9 _ rfl] at hy
  simp [List.range_succ, show Tryz.prog.cellsOf 3 = 1 from by kernel_rfl] at hy
  obtain ⟨code, e, _, w_code⟩ := DataW.trod_int Tryz.underlying3 hy
  simp at e
  subst e
  clear hy
  obtain ⟨y, hy⟩ : ∃ y, xs[10]? = some y := ⟨_, List.getElem?_eq_getElem (by rw [hlen]; decide)⟩
  rw [← hg 10 _ rfl] at hy
  simp [List.range_succ, show Tryz.prog.cellsOf 3 = 1 from by kernel_rfl] at hy
  obtain ⟨detail, e, _, w_detail⟩ := DataW.trod_int Tryz.underlying3 hy
  simp at e
  subst e
  clear hy
  obtain ⟨y, hy⟩ : ∃ y, xs[11]? = some y := ⟨_, List.getElem?_eq_getElem (by rw [hlen]; decide)⟩
  rw [← hg 11 _ rfl] at hy
  simp [List.range_succ, show Tryz.prog.cellsOf 23 = 1 from by kernel_rfl] at hy
  obtain ⟨hs, ht⟩ := slice_cell Tryz.underlying23 hy
  obtain ⟨m, g, g1, g2, g3⟩ := open_opts_of hs ht
  clear hy hs ht
  obtain ⟨y, hy⟩ : ∃ y, xs[12]? = some y := ⟨_, List.getElem?_eq_getElem (by rw [hlen]; decide)⟩
  rw [← hg 12 _ rfl] at hy
  simp [List.range_succ, show Tryz.prog.cellsOf 9 = 1 from by kernel_rfl] at hy
  obtain ⟨data, e, _, w_data⟩ := DataW.trod_string Tryz.underlying9 hy
  simp at e
  subst e
  clear hy
  exact ⟨⟨kind, long, src, dst, ccval, cover, seq, ack, service, code, detail, data⟩, opts_c, m, g, rfl, g1, g2, w_data, g3⟩
end Go.Proofs.YtopeaafcepgnhaaGreat
namespace Go.Proofs.YtopeaafcepgnhaaGreat
open Go.RowKit Sym Go.ChangeShapes Go.WideShapes Go.ChangeMaps
def qN (n : Nat) : Nat := if n < 50 then n + 1 else n
def qX (n : Nat) (xs ys : List Value) : List Value := if n < 50 then xs ++ ys else xs
def shortB (st k : Int) : Bool := decide (st = 3 ∧ (k = 2 ∨ k = 3 ∨ k = 4))
def pkS (st gss sv : Int) (p : Pk) (ack : Int) : Pk :=
  { p with long := !shortB st p.kind, seq := if shortB st p.kind = true then shortN (Circ.add gss 1) else Circ.add gss 1, ack := if shortB st p.kind = true then shortN (if Head.acks p.kind = true then ack else p.ack) else if Head.acks p.kind = true then ack else p.ack, service := if p.kind = 0 then sv else p.service }
def pkL (st gss sv : Int) (p : Pk) (ack : Int) (o : Value) : List Value := (pkS st gss sv p ack).l o
theorem allOne_nil' : allOneP [] := fun u hu => by cases hu
theorem allOne_cons' {x : Value} {l : List Value} (h : x.oneCell' = true) (hl : allOneP l) : allOneP (x :: l) := fun u hu => by
  rcases List.mem_cons.1 hu with rfl | hu
  · exact h
  · exact hl u hu
abbrev FSn0 (P : Program) (fBrief : Func) : LTab := addT 95 (inl P (both P SCn0 noF []) noL fBrief) (addT 33 fClone noF)
abbrev CSn0 (P : Program) (fBrief : Func) : Cfg := both P SCn0 (FSn0 P fBrief) [95, 33]
theorem CSn0_ok : CfgOk Tryz.prog (CSn0 Tryz.prog Tryz.f95) := both_ok SCn0_ok (addT_ok (addT_ok noF_ok (by kernel_rfl) fClone_ok) (by kernel_rfl) (inl_ok CNum_ok follows Tryz.func95 (by kernel_rfl) (lexAllF_ok (by kernel_rfl)) (noloops (by kernel_rfl))))
def sendN_run_s1 (x0 x8 x9 x10 x11 x12 x13 x14 : Value) (st i1 i2 gss gsr gar sv : Int) (p : Pk) (ack : Int) (n : Nat) (xs : List Value) (z0 : Int) (z1 : Int) (z2 : Bool) (z3 : Int) : T (SV × List Blk) := (.ite (decide ((↑n : Int) < (50 : Int))) (.need (n + 1 ≤ 9223372036854775807 ∧ (n + 1) * 128 ≤ 140737488355328) (.need (allOneP [Value.int IntKind.i64 p.1, Value.bool z2, Value.int IntKind.i64 p.3, Value.int IntKind.i64 p.4, Value.int IntKind.i64 p.5, Value.int IntKind.i64 p.6, Value.int IntKind.i64 z1, Value.int IntKind.i64 z0, Value.int IntKind.i64 z3, Value.int IntKind.i64 p.10, Value.int IntKind.i64 p.11, Value.slice none 0 0, Value.string p.12]) (.leaf (.v (.int .i64 (Circ.add gss (1 : Int))), [.own [SV.v x0, .v (.int .i64 st), .v (.int .i64 i1), .v (.int .i64 i2), .v (.int .i64 (Circ.add gss (1 : Int))), .v (.int .i64 gsr), .v (.int .i64 gar), .v (.int .i64 sv), SV.v x8, SV.v x9, SV.v x10, SV.v x11, SV.v x12, SV.v x13, SV.v x14, SV.ref 2], Blk.gone, Blk.vec false 36 13 (n + 1) (xs ++ [Value.int IntKind.i64 p.1, Value.bool z2, Value.int IntKind.i64 p.3, Value.int IntKind.i64 p.4, Value.int IntKind.i64 p.5, Value.int IntKind.i64 p.6, Value.int IntKind.i64 z1, Value.int IntKind.i64 z0, Value.int IntKind.i64 z3, Value.int IntKind.i64 p.10, Value.int IntKind.i64 p.11, Value.slice none 0 0, Value.string p.12])])))) (.leaf (.v (.int .i64 (Circ.add gss (1 : Int))), [.own [SV.v x0, .v (.int .i64 st), .v (.int .i64 i1), .v (.int .i64 i2), .v (.int .i64 (Circ.add gss (1 : Int))), .v (.int .i64 gsr), .v (.int .i64 gar), .v (.int .i64 sv), SV.v x8, SV.v x9, SV.v x10, SV.v x11, SV.v x12, SV.v x13, SV.v x14, SV.ref 1], Blk.vec false 36 13 n xs])))
set_option maxRecDepth 100000 in
theorem sendN_run (x0 x8 x9 x10 x11 x12 x13 x14 : Value) (st i1 i2 gss gsr gar sv : Int) (p : Pk) (ack : Int) (n : Nat) (xs : List Value) : canT 2 (runF Tryz.prog (CSn0 Tryz.prog Tryz.f95) noL Tryz.f68 (Tryz.f68.body.getD .skip) [.ptr 0 0, p.s (.c (.slice none 0 0)), .v (.int .i64 ack)] [.own [.v x0, .v (.int .i64 st), .v (.int .i64 i1), .v (.int .i64 i2), .v (.int .i64 gss), .v (.int .i64 gsr), .v (.int .i64 gar), .v (.int .i64 sv), .v x8, .v x9, .v x10, .v x11, .v x12, .v x13, .v x14, .ref 1], .vec false 36 13 n xs]) = .ite (Head.acks p.1) (.ite (decide (p.1 = (0 : Int))) (.ite (decide (st = (3 : Int))) (.ite (decide (p.1 = (2 : Int))) (sendN_run_s1 x0 x8 x9 x10 x11 x12 x13 x14 st i1 i2 gss gsr gar sv p ack n xs (shortN ack) (shortN (Circ.add gss (1 : Int))) false sv) (.ite (decide (p.1 = (3 : Int))) (sendN_run_s1 x0 x8 x9 x10 x11 x12 x13 x14 st i1 i2 gss gsr gar sv p ack n xs (shortN ack) (shortN (Circ.add gss (1 : Int))) false sv) (.ite (decide (p.1 = (4 : Int))) (sendN_run_s1 x0 x8 x9 x10 x11 x12 x13 x14 st i1 i2 gss gsr gar sv p ack n xs (shortN ack) (shortN (Circ.add gss (1 : Int))) false sv) (sendN_run_s1 x0 x8 x9 x10 x11 x12 x13 x14 st i1 i2 gss gsr gar sv p ack n xs ack (Circ.add gss (1 : Int)) true sv)))) (sendN_run_s1 x0 x8 x9 x10 x11 x12 x13 x14 st i1 i2 gss gsr gar sv p ack n xs ack (Circ.add gss (1 : Int)) true sv)) (.ite (decide (st = (3 : Int))) (.ite (decide (p.1 = (2 : Int))) (sendN_run_s1 x0 x8 x9 x10 x11 x12 x13 x14 st i1 i2 gss gsr gar sv p ack n xs (shortN ack) (shortN (Circ.add gss (1 : Int))) false p.9) (.ite (decide (p.1 = (3 : Int))) (sendN_run_s1 x0 x8 x9 x10 x11 x12 x13 x14 st i1 i2 gss gsr gar sv p ack n xs (shortN ack) (shortN (Circ.add gss (1 : Int))) false p.9) (.ite (decide (p.1 = (4 : Int))) (sendN_run_s1 x0 x8 x9 x10 x11 x12 x13 x14 st i1 i2 gss gsr gar sv p ack n xs (shortN ack) (shortN (Circ.add gss (1 : Int))) false p.9) (sendN_run_s1 x0 x8 x9 x10 x11 x12 x13 x14 st i1 i2 gss gsr gar sv p ack n xs ack (Circ.add gss (1 : Int)) true p.9)))) (sendN_run_s1 x0 x8 x9 x10 x11 x12 x13 x14 st i1 i2 gss gsr gar sv p ack n xs ack (Circ.add gss (1 : Int)) true p.9))) (.ite (decide (p.1 = (0 : Int))) (.ite (decide (st = (3 : Int))) (.ite (decide (p.1 = (2 : Int))) (sendN_run_s1 x0 x8 x9 x10 x11 x12 x13 x14 st i1 i2 gss gsr gar sv p ack n xs (shortN p.8) (shortN (Circ.add gss (1 : Int))) false sv) (.ite (decide (p.1 = (3 : Int))) (sendN_run_s1 x0 x8 x9 x10 x11 x12 x13 x14 st i1 i2 gss gsr gar sv p ack n xs (shortN p.8) (shortN (Circ.add gss (1 : Int))) false sv) (.ite (decide (p.1 = (4 : Int))) (sendN_run_s1 x0 x8 x9 x10 x11 x12 x13 x14 st i1 i2 gss gsr gar sv p ack n xs (shortN p.8) (shortN (Circ.add gss (1 : Int))) false sv) (sendN_run_s1 x0 x8 x9 x10 x11 x12 x13 x14 st i1 i2 gss gsr gar sv p ack n xs p.8 (Circ.add gss (1 : Int)) true sv)))) (sendN_run_s1 x0 x8 x9 x10 x11 x12 x13 x14 st i1 i2 gss gsr gar sv p ack n xs p.8 (Circ.add gss (1 : Int)) true sv)) (.ite (decide (st = (3 : Int))) (.ite (decide (p.1 = (2 : Int))) (sendN_run_s1 x0 x8 x9 x10 x11 x12 x13 x14 st i1 i2 gss gsr gar sv p ack n xs (shortN p.8) (shortN (Circ.add gss (1 : Int))) false p.9) (.ite (decide (p.1 = (3 : Int))) (sendN_run_s1 x0 x8 x9 x10 x11 x12 x13 x14 st i1 i2 gss gsr gar sv p ack n xs (shortN p.8) (shortN (Circ.add gss (1 : Int))) false p.9) (.ite (decide (p.1 = (4 : Int))) (sendN_run_s1 x0 x8 x9 x10 x11 x12 x13 x14 st i1 i2 gss gsr gar sv p ack n xs (shortN p.8) (shortN (Circ.add gss (1 : Int))) false p.9) (sendN_run_s1 x0 x8 x9 x10 x11 x12 x13 x14 st i1 i2 gss gsr gar sv p ack n xs p.8 (Circ.add gss (1 : Int)) true p.9)))) (sendN_run_s1 x0 x8 x9 x10 x11 x12 x13 x14 st i1 i2 gss gsr gar sv p ack n xs p.8 (Circ.add gss (1 : Int)) true p.9))) := by kernel_rfl
set_option maxRecDepth 100000 in
theorem sendN_tree (x0 x8 x9 x10 x11 x12 x13 x14 : Value) (st i1 i2 gss gsr gar sv : Int) (p : Pk) (ack : Int) (n : Nat) (xs : List Value) : (canT 2 (runF Tryz.prog (CSn0 Tryz.prog Tryz.f95) noL Tryz.f68 (Tryz.f68.body.getD .skip) [.ptr 0 0, p.s (.c (.slice none 0 0)), .v (.int .i64 ack)] [.own [.v x0, .v (.int .i64 st), .v (.int .i64 i1), .v (.int .i64 i2), .v (.int .i64 gss), .v (.int .i64 gsr), .v (.int .i64 gar), .v (.int .i64 sv), .v x8, .v x9, .v x10, .v x11, .v x12, .v x13, .v x14, .ref 1], .vec false 36 13 n xs])).ok
    fun r => (n < 50 ∧ r = (.v (.int .i64 (Circ.add gss 1)), [.own [.v x0, .v (.int .i64 st), .v (.int .i64 i1), .v (.int .i64 i2), .v (.int .i64 (Circ.add gss 1)), .v (.int .i64 gsr), .v (.int .i64 gar), .v (.int .i64 sv), .v x8, .v x9, .v x10, .v x11, .v x12, .v x13, .v x14, .ref 2], .gone, .vec false 36 13 (n + 1) (xs ++ pkL st gss sv p ack (.slice none 0 0))])) ∨ (¬ n < 50 ∧ r = (.v (.int .i64 (Circ.add gss 1)), [.own [.v x0, .v (.int .i64 st), .v (.int .i64 i1), .v (.int .i64 i2), .v (.int .i64 (Circ.add gss 1)), .v (.int .i64 gsr), .v (.int .i64 gar), .v (.int .i64 sv), .v x8, .v x9, .v x10, .v x11, .v x12, .v x13, .v x14, .ref 1], .vec false 36 13 n xs])) := by
  rw [sendN_run]
  unfold sendN_run_s1
  repeat' (first | (with_reducible refine t_need ?_ ?_) | (with_reducible refine t_ite ?_ ?_; all_goals intro h) | (with_reducible refine t_leaf ?_))
  all_goals (try simp only [decide_eq_true_eq, decide_eq_false_iff_not] at *)
  all_goals first
    | (refine ⟨?_, ?_⟩ <;> omega)
    | ((repeat (refine allOne_cons' rfl ?_)); exact allOne_nil')
    | (refine .inr ⟨by omega, ?_⟩; first | rfl | trivial)
    | (exfalso; omega)
    | (refine .inl ⟨by omega, ?_⟩
       first | (simp [pkL, pkS, Pk.l, shortB, *]; done) | (simp_all [pkL, pkS, Pk.l, shortB, Head.acks]; done))
    | (exfalso; simp_all [Head.acks]; done)
    | trace_state
def intS : SV → Option Int
  | .v (.int .i64 z) => some z
  | .c (.int .i64 z) => some z
  | _ => none
theorem intS_to {s : SV} {z : Int} (h : intS s = some z) (B : List Value) : s.to B = some (.int .i64 z) := by
  unfold intS at h
  split at h
  · simp only [Option.some.injEq] at h; subst h; rfl
  · simp only [Option.some.injEq] at h; subst h; rfl
  · cases h
def fSendN : List SV → List Blk → Option (T (SV × List Blk))
  | [.ptr 0 0, P, a], [.own [c0, c1, .v (.int .i64 i1), .v (.int .i64 i2), .v (.int .i64 gss), .v (.int .i64 gsr), .v (.int .i64 gar), .v (.int .i64 sv), c8, c9, c10, c11, c12, c13, c14, .ref 1], .vec false 36 13 n xs] => (intS c1).bind fun st => (intS a).bind fun ack => (aggOf P).bind fun l => (pkOf l).bind fun r => bif isNilS (some r.2) then
      some (.leaf (.v (.int .i64 (Circ.add gss 1)), [.own [c0, c1, .v (.int .i64 i1), .v (.int .i64 i2), .v (.int .i64 (Circ.add gss 1)), .v (.int .i64 gsr), .v (.int .i64 gar), .v (.int .i64 sv), c8, c9, c10, c11, c12, c13, c14, .ref 2], .gone, .vec false 36 13 (qN n) (qX n xs (pkL st gss sv r.1 ack (.slice none 0 0)))])) else none
  | _, _ => none
theorem grown_same (w : World) (r : Option Nat) : w.grownBy w r := ⟨rfl, rfl, rfl, Nat.le_refl _, fun _ _ _ => rfl⟩
set_option maxHeartbeats 4000000 in
set_option maxRecDepth 100000 in
theorem fSendN_ok : EntryOk Tryz.prog 68 fSendN := by
  intro ss H t ht bs B w vs hm hv Qs hq
  unfold fSendN at ht
  split at ht
  · rename_i P a c0 c1 i1 i2 gss gsr gar sv c8 c9 c10 c11 c12 c13 c14 n xs
    simp only [Option.bind_eq_some_iff] at ht
    obtain ⟨st, hst, ack, hack, l, hl, ⟨p, so⟩, hp, ht⟩ := ht
    cases hb : isNilS (some so)
    · rw [hb] at ht; cases ht
    · rw [hb, cond_true, Option.some.injEq] at ht
      subst ht
      obtain ⟨s', hs', hnil⟩ := nil_to hb
      simp only [Option.some.injEq] at hs'
      subst hs'
      obtain ⟨b, us, g1, g2, g3⟩ := hm.own_at (k := 0) rfl
      obtain ⟨x0, r0, e0, v0, rfl⟩ := tos_cons hv
      obtain ⟨x1, r1, e1, v1, rfl⟩ := tos_cons v0
      obtain ⟨x2, r2, e2, v2, rfl⟩ := tos_cons v1
      obtain rfl := tos_nil v2
      obtain ⟨ps, hps, rfl⟩ := aggOf_ok e1 hl
      have e := pkOf_ok hp
      have hpv : (SV.agg l).to B = some (.agg ps.toArray) := by simp [SV.to, hps]
      rw [e, Pk.s_to p (hnil B), Option.some.injEq] at hpv
      rw [intS_to hack, Option.some.injEq] at e2
      subst e2
      have g2' := g2
      obtain ⟨u0, q0, f0, y0, rfl⟩ := tos_cons g2
      obtain ⟨u1, q1, f1, y1, rfl⟩ := tos_cons y0
      obtain ⟨u2, q2, f2, y2, rfl⟩ := tos_cons y1
      obtain ⟨u3, q3, f3, y3, rfl⟩ := tos_cons y2
      obtain ⟨u4, q4, f4, y4, rfl⟩ := tos_cons y3
      obtain ⟨u5, q5, f5, y5, rfl⟩ := tos_cons y4
      obtain ⟨u6, q6, f6, y6, rfl⟩ := tos_cons y5
      obtain ⟨u7, q7, f7, y7, rfl⟩ := tos_cons y6
      obtain ⟨u8, q8, f8, y8, rfl⟩ := tos_cons y7
      obtain ⟨u9, q9, f9, y9, rfl⟩ := tos_cons y8
      obtain ⟨u10, q10, f10, y10, rfl⟩ := tos_cons y9
      obtain ⟨u11, q11, f11, y11, rfl⟩ := tos_cons y10
      obtain ⟨u12, q12, f12, y12, rfl⟩ := tos_cons y11
      obtain ⟨u13, q13, f13, y13, rfl⟩ := tos_cons y12
      obtain ⟨u14, q14, f14, y14, rfl⟩ := tos_cons y13
      obtain ⟨u15, q15, f15, y15, rfl⟩ := tos_cons y14
      obtain rfl := tos_nil y15
      have hst1 : st = st := rfl
      rw [intS_to hst, Option.some.injEq] at f1
      subst f1
      simp only [SV.to, Option.some.injEq] at f2 f3 f4 f5 f6 f7
      subst f2 f3 f4 f5 f6 f7
      have hback : ∀ {B' : List Value}, B <+: B' → ∀ (g : Int) (o : SV) (uo : Value), o.to B' = some uo → SV.tos B' [c0, c1, .v (.int .i64 i1), .v (.int .i64 i2), .v (.int .i64 g), .v (.int .i64 gsr), .v (.int .i64 gar), .v (.int .i64 sv), c8, c9, c10, c11, c12, c13, c14, o] = some [u0, .int .i64 st, .int .i64 i1, .int .i64 i2, .int .i64 g, .int .i64 gsr, .int .i64 gar, .int .i64 sv, u8, u9, u10, u11, u12, u13, u14, uo] := by
        intro B' hpre g o uo ho
        simp only [SV.tos, SV.to, SV.to_mono hpre f0, SV.to_mono hpre (intS_to hst B), SV.to_mono hpre f8, SV.to_mono hpre f9, SV.to_mono hpre f10, SV.to_mono hpre f11, SV.to_mono hpre f12, SV.to_mono hpre f13, SV.to_mono hpre f14, ho]
      have hm1 : Mem w bs [.own [.v u0, .v (.int .i64 st), .v (.int .i64 i1), .v (.int .i64 i2), .v (.int .i64 gss), .v (.int .i64 gsr), .v (.int .i64 gar), .v (.int .i64 sv), .v u8, .v u9, .v u10, .v u11, .v u12, .v u13, .v u14, .ref 1], .vec false 36 13 n xs] B w := hm.upd (k := 0) (y := .own [.v u0, .v (.int .i64 st), .v (.int .i64 i1), .v (.int .i64 i2), .v (.int .i64 gss), .v (.int .i64 gsr), .v (.int .i64 gar), .v (.int .i64 sv), .v u8, .v u9, .v u10, .v u11, .v u12, .v u13, .v u14, .ref 1]) rfl rfl g1 (grown_same w _) rfl ⟨b, _, rfl, by
        rw [← g2']
        simp only [SV.tos, SV.to, f0, intS_to hst B, f8, f9, f10, f11, f12, f13, f14], g3⟩
      have hv1 : SV.tos B [.ptr 0 0, p.s (.c (.slice none 0 0)), .v (.int .i64 ack)] = some [x0, .agg ps.toArray, .int .i64 ack] := by
        simp only [SV.tos, e0, Pk.s_to p (show (SV.c (.slice none 0 0)).to B = some (.slice none 0 0) from rfl), hpv]
        rfl
      refine (canT_okn CSn0_ok follows Tryz.func68 (by kernel_rfl) (lexAllF_ok (by kernel_rfl)) (noloops (by kernel_rfl)) (sendN_tree u0 u8 u9 u10 u11 u12 u13 u14 st i1 i2 gss gsr gar sv p ack n xs) rfl hm1 hv1).mono ?_
      rintro e' w' ⟨s, H', B', x, hQ, hpre, rfl, hx, hm'⟩
      rcases hQ with ⟨hn, hQ⟩ | ⟨hn, hQ⟩
      · simp only [Prod.mk.injEq] at hQ
        obtain ⟨rfl, rfl⟩ := hQ
        obtain ⟨b', us', k1, k2, k3⟩ := hm'.own_at (k := 0) rfl
        obtain ⟨uq, huq⟩ := hm'.sat.getB (k := 2) rfl
        refine ⟨_, _, B', x, hq, hpre, rfl, hx, ?_⟩
        have := hm'.upd (k := 0) (y := .own [c0, c1, .v (.int .i64 i1), .v (.int .i64 i2), .v (.int .i64 (Circ.add gss 1)), .v (.int .i64 gsr), .v (.int .i64 gar), .v (.int .i64 sv), c8, c9, c10, c11, c12, c13, c14, .ref 2]) rfl rfl k1 (grown_same w' _) rfl ⟨b', us', rfl, by
          rw [← k2, hback hpre (Circ.add gss 1) (.ref 2) uq (by simp only [SV.to]; exact huq)]
          simp only [SV.tos, SV.to, huq], k3⟩
        unfold qN qX
        rw [if_pos hn, if_pos hn]
        exact this
      · simp only [Prod.mk.injEq] at hQ
        obtain ⟨rfl, rfl⟩ := hQ
        obtain ⟨uq, huq⟩ := hm'.sat.getB (k := 1) rfl
        have hl : B'.length = 2 := hm'.sat.len
        have hm2 := hm'.pass (k := 1) (y := .vec false 36 13 n xs) (v := uq) rfl rfl huq (grown_same w' _) (fun b hb => .inl hb) (hm'.sat.blk 1 _ uq rfl huq) rfl
        obtain ⟨b', us', k1, k2, k3⟩ := hm2.own_at (k := 0) rfl
        have hpre2 : B <+: B' ++ [uq] := hpre.trans (List.prefix_append _ _)
        have h2 : (B' ++ [uq])[2]? = some uq := by rw [List.getElem?_append_right (by omega), hl]; rfl
        have h1 : (B' ++ [uq])[1]? = some uq := getElem?_prefix (List.prefix_append _ _) huq
        refine ⟨_, _, B' ++ [uq], x, hq, hpre2, rfl, hx, ?_⟩
        have := hm2.upd (k := 0) (y := .own [c0, c1, .v (.int .i64 i1), .v (.int .i64 i2), .v (.int .i64 (Circ.add gss 1)), .v (.int .i64 gsr), .v (.int .i64 gar), .v (.int .i64 sv), c8, c9, c10, c11, c12, c13, c14, .ref 2]) rfl rfl k1 (grown_same w' _) rfl ⟨b', us', rfl, by
          rw [← k2, hback hpre2 (Circ.add gss 1) (.ref 2) uq (by simp only [SV.to]; exact h2)]
          simp only [SV.tos, SV.to, h1], k3⟩
        unfold qN qX
        rw [if_neg hn, if_neg hn]
        exact this
  · cases ht
end Go.Proofs.YtopeaafcepgnhaaGreat
