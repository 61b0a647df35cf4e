/- The beginning of bytes: the contract of head.Get. No conditions. -/
import Derived.Test.YtnhfhnphmjhamaaHead4
import Derived.Test.YtnhfhnphmjhamaaCut2
import Derived.Test.YtnhfhnphmjhamaaPlHead2
namespace Go.Proofs.Ytnhfhnphmjhamaa
set_option linter.unusedVariables false
set_option linter.unusedSimpArgs false
open Go.RowKit

def nu (s : ByteArray) (a b : Nat) : Nat := Oct.val (s.extract a b).data.toList
set_option maxRecDepth 100000 in
set_option maxHeartbeats 4000000 in
theorem head_get_short (s : ByteArray) (w : World) (hs : s.size < 12) : Calls Try.prog 43 #[.string s] w fun e w' => e = .returned (.tuple #[(⟨0, 0, 0, 0, 0, 0, 0, false, 0⟩ : Head.H).v, .string ⟨#[]⟩, .int .i64 1]) ∧ Below w.heap.size w w' := by
  go_enter Try.func43, Try.ntmps43
  go_wp2
  go_returns
  exact ⟨rfl, by (repeat' (first | (with_reducible exact Below.refl _ _) | (with_reducible refine below_alloc ?_ _) | (with_reducible refine Below.drew ?_) | (with_reducible refine below_drewN ?_ _) | (with_reducible refine Below.setCell ?_ ?_ _) | (with_reducible assumption) | (with_reducible refine below_of ?_ (by assumption)) | omega | (simp only [World.size_alloc, World.size_setCell, World.size_drew, size_drewN] at *; omega) | (simp; omega)))⟩
/-- what a text's beginning says -/
def hd (s : ByteArray) (long : Bool) : Head.H := ⟨nu s 0 2, nu s 2 4, nu s 4 5, (nu s 5 6 : Int) / 16, (nu s 5 6 : Int) % 16, nu s 6 8, (nu s 8 9 : Int) / 2 % 16, long, if long = true then nu s 10 16 else nu s 9 12⟩
def hnone : Head.H := ⟨0, 0, 0, 0, 0, 0, 0, false, 0⟩
def get (s : ByteArray) : Head.H × ByteArray × Int :=
  if s.size < 12 then (hnone, ⟨#[]⟩, 1)
  else if nu s 8 9 % 2 = 1 then
    if s.size < 16 then (hnone, ⟨#[]⟩, 1)
    else if nu s 8 9 / 32 = 0 ∧ nu s 9 10 = 0 then
      if Head.check (hd s true) = 0 then (hd s true, s.extract 16 s.size, 0) else (hnone, ⟨#[]⟩, Head.check (hd s true))
    else (hnone, ⟨#[]⟩, 4)
  else if nu s 8 9 / 32 = 0 then
    if Head.check (hd s false) = 0 then (hd s false, s.extract 12 s.size, 0) else (hnone, ⟨#[]⟩, Head.check (hd s false))
  else (hnone, ⟨#[]⟩, 4)
set_option maxRecDepth 100000 in
set_option maxHeartbeats 4000000 in
theorem head_get_long (s : ByteArray) (w : World) (hs : 12 ≤ s.size) (hm : s.size ≤ maxLen) : Calls Try.prog 43 #[.string s] w fun e w' => e = .returned (.tuple #[(get s).1.v, .string (get s).2.1, .int .i64 (get s).2.2]) ∧ Below w.heap.size w w' := by
  have hm' := hm
  unfold maxLen at hm'
  go_enter Try.func43, Try.ntmps43
  go_wp2_with fail
  refine (cut_new s _).mono ?_
  rintro e w1 ⟨rfl, rfl⟩
  go_wp2_with fail
  have hb : ∀ a b, b ≤ a + 1 → nu s a b < 256 := fun a b h => Nat.lt_of_lt_of_le (Oct.val_lt _) (Nat.pow_le_pow_right (by decide) (show (s.extract a b).data.toList.length ≤ 1 by simp; omega))
  have b8 := hb 8 9 (by omega)
  have b9 := hb 9 10 (by omega)
  clear hb
  have hds : ∀ (W : World) (n : Nat) (p : Addr) (v : Value), (W.drewN n).setCell p v = (W.setCell p v).drewN n := fun _ _ _ _ => rfl
  have a15 := Head.and15 (nu s 5 6)
  have a15' := Head.and15 ((nu s 8 9 : Int) / 2)
  have a1 := Head.and1 (nu s 8 9)
  have hor := Head.or_zero (nu s 8 9 / 32) (nu s 9 10) (by omega) (by omega)
  rw [show ((nu s 8 9 / 32 : Nat) : Int) = (nu s 8 9 : Int) / 32 by omega] at hor
  have HOR := Lib.hid hor
  clear hor
  have hn12 : ¬ s.size < 12 := by omega
  refine (cut_numX _ s 0 2 _ hm (by omega) (by omega) (by omega) (by omega) ⟨by simp [go_sem], by simp [go_sem], by simp [go_sem], by simp [go_sem]⟩).mono ?_
  rw [show Oct.val (s.extract ((0 : Int)).toNat ((0 : Int) + 2).toNat).data.toList = nu s 0 2 from rfl]
  rintro e w1 ⟨rfl, m, rfl⟩
  go_wp2_with fail
  refine (cut_numX _ s 2 2 _ hm (by omega) (by omega) (by omega) (by omega) ⟨by simp [go_sem], by simp [go_sem], by simp [go_sem], by simp [go_sem]⟩).mono ?_
  rw [show Oct.val (s.extract ((2 : Int)).toNat ((2 : Int) + 2).toNat).data.toList = nu s 2 4 from rfl]
  rintro e w1 ⟨rfl, m, rfl⟩
  go_wp2_with fail
  refine (cut_numX _ s 4 1 _ hm (by omega) (by omega) (by omega) (by omega) ⟨by simp [go_sem], by simp [go_sem], by simp [go_sem], by simp [go_sem]⟩).mono ?_
  rw [show Oct.val (s.extract ((4 : Int)).toNat ((4 : Int) + 1).toNat).data.toList = nu s 4 5 from rfl]
  rintro e w1 ⟨rfl, m, rfl⟩
  go_wp2_with fail
  refine (cut_numX _ s 5 1 _ hm (by omega) (by omega) (by omega) (by omega) ⟨by simp [go_sem], by simp [go_sem], by simp [go_sem], by simp [go_sem]⟩).mono ?_
  rw [show Oct.val (s.extract ((5 : Int)).toNat ((5 : Int) + 1).toNat).data.toList = nu s 5 6 from rfl]
  rintro e w1 ⟨rfl, m, rfl⟩
  go_wp2_with fail
  refine (cut_numX _ s 6 2 _ hm (by omega) (by omega) (by omega) (by omega) ⟨by simp [go_sem], by simp [go_sem], by simp [go_sem], by simp [go_sem]⟩).mono ?_
  rw [show Oct.val (s.extract ((6 : Int)).toNat ((6 : Int) + 2).toNat).data.toList = nu s 6 8 from rfl]
  rintro e w1 ⟨rfl, m, rfl⟩
  go_wp2_with fail
  by_cases hlong : nu s 8 9 % 2 = 1
  · have t1 : ((nu s 8 9 : Int) % 2 == 1) = true := by simp; omega
    by_cases h16 : s.size < 16
    · have hg : get s = (hnone, ⟨#[]⟩, 1) := by simp only [get, if_neg hn12, if_pos hlong, if_pos h16]
      have HG := Lib.hid hg
      clear hg hlong
      refine (cut_numX _ s 8 1 _ hm (by omega) (by omega) (by omega) (by omega) ⟨by simp [go_sem], by simp [go_sem], by simp [go_sem], by simp [go_sem]⟩).mono ?_
      rw [show Oct.val (s.extract ((8 : Int)).toNat ((8 : Int) + 1).toNat).data.toList = nu s 8 9 from rfl]
      rintro e w1 ⟨rfl, m, rfl⟩
      go_wp2_with fail
      go_returns
      exact ⟨ret_v (by rw [HG.out]; rfl), by (repeat' (first | (with_reducible exact Below.refl _ _) | (with_reducible refine below_alloc ?_ _) | (with_reducible refine Below.drew ?_) | (with_reducible refine below_drewN ?_ _) | (with_reducible refine Below.setCell ?_ ?_ _) | (with_reducible assumption) | (with_reducible refine below_of ?_ (by assumption)) | omega | (simp only [World.size_alloc, World.size_setCell, World.size_drew, size_drewN] at *; omega) | (simp; omega)))⟩
    · have h16' : (16 : Int) ≤ s.size := by omega
      by_cases hsp : nu s 8 9 / 32 = 0 ∧ nu s 9 10 = 0
      · have hor : (bits .or .i64 ((nu s 8 9 : Int) / 32) (nu s 9 10 : Int) != 0) = false := by rw [HOR.out]; simp [hsp.1, hsp.2]
        have hg : get s = if Head.check (hd s true) = 0 then (hd s true, s.extract 16 s.size, 0) else (hnone, ⟨#[]⟩, Head.check (hd s true)) := by simp only [get, if_neg hn12, if_pos hlong, if_neg h16, if_pos hsp]
        have HG := Lib.hid hg
        clear hg hlong hsp
        refine (cut_numX _ s 8 1 _ hm (by omega) (by omega) (by omega) (by omega) ⟨by simp [go_sem], by simp [go_sem], by simp [go_sem], by simp [go_sem]⟩).mono ?_
        rw [show Oct.val (s.extract ((8 : Int)).toNat ((8 : Int) + 1).toNat).data.toList = nu s 8 9 from rfl]
        rintro e w1 ⟨rfl, m, rfl⟩
        go_wp2_with fail
        refine (cut_numX _ s 9 1 _ hm (by omega) (by omega) (by omega) (by omega) ⟨by simp [go_sem], by simp [go_sem], by simp [go_sem], by simp [go_sem]⟩).mono ?_
        rw [show Oct.val (s.extract ((9 : Int)).toNat ((9 : Int) + 1).toNat).data.toList = nu s 9 10 from rfl]
        rintro e w1 ⟨rfl, m, rfl⟩
        go_wp2_with fail
        refine (head_pick _ _ _ _).mono ?_
        rw [if_pos rfl]
        rintro e w1 ⟨rfl, rfl⟩
        go_wp2_with fail
        refine (cut_numX _ s 10 6 _ hm (by omega) (by omega) (by omega) (by omega) ⟨by simp [go_sem], by simp [go_sem], by simp [go_sem], by simp [go_sem]⟩).mono ?_
        rw [show Oct.val (s.extract ((10 : Int)).toNat ((10 : Int) + 6).toNat).data.toList = nu s 10 16 from rfl]
        rintro e w1 ⟨rfl, m, rfl⟩
        go_wp2_with fail
        by_cases hc : Head.check (hd s true) = 0
        · have HC := Lib.hid hc
          clear hc
          refine (head_check (hd s true) _).mono ?_
          rw [HC.out]
          rintro e w1 ⟨rfl, hb⟩; have hz := hb.size; (try simp only [World.size_alloc, World.size_setCell, World.size_drew, size_drewN] at hz); apply own_step (B := w.heap.size) hb; (focus (repeat (first | (with_reducible assumption) | (with_reducible exact own_new _ _ _) | ((with_reducible apply own_new'); focus (first | omega | (simp; done) | (simp; omega))) | (with_reducible apply own_drewN) | (with_reducible apply own_drew) | (with_reducible apply own_alloc) | (with_reducible apply own_setT) | ((with_reducible apply own_set_otherH); focus (first | (simp; done) | (simp; omega)))))); intro hO0; have hk0 := hO0.2.1; have hl0 := hO0.1; have hf0 := hO0.2.2; (try simp only [List.setIfInBounds_toArray, List.set_cons_zero, List.set_cons_succ] at hO0 hk0); apply own_step (B := w.heap.size + 1) hb; (focus (repeat (first | (with_reducible assumption) | (with_reducible exact own_new _ _ _) | ((with_reducible apply own_new'); focus (first | omega | (simp; done) | (simp; omega))) | (with_reducible apply own_drewN) | (with_reducible apply own_drew) | (with_reducible apply own_alloc) | (with_reducible apply own_setT) | ((with_reducible apply own_set_otherH); focus (first | (simp; done) | (simp; omega)))))); intro hO1; have hk1 := hO1.2.1; have hl1 := hO1.1; have hf1 := hO1.2.2; (try simp only [List.setIfInBounds_toArray, List.set_cons_zero, List.set_cons_succ] at hO1 hk1); apply own_step (B := w.heap.size + 1 + 1) hb; (focus (repeat (first | (with_reducible assumption) | (with_reducible exact own_new _ _ _) | ((with_reducible apply own_new'); focus (first | omega | (simp; done) | (simp; omega))) | (with_reducible apply own_drewN) | (with_reducible apply own_drew) | (with_reducible apply own_alloc) | (with_reducible apply own_setT) | ((with_reducible apply own_set_otherH); focus (first | (simp; done) | (simp; omega)))))); intro hO2; have hk2 := hO2.2.1; have hl2 := hO2.1; have hf2 := hO2.2.2; (try simp only [List.setIfInBounds_toArray, List.set_cons_zero, List.set_cons_succ] at hO2 hk2); apply own_step (B := w.heap.size + 1 + 1 + 1) hb; (focus (repeat (first | (with_reducible assumption) | (with_reducible exact own_new _ _ _) | ((with_reducible apply own_new'); focus (first | omega | (simp; done) | (simp; omega))) | (with_reducible apply own_drewN) | (with_reducible apply own_drew) | (with_reducible apply own_alloc) | (with_reducible apply own_setT) | ((with_reducible apply own_set_otherH); focus (first | (simp; done) | (simp; omega)))))); intro hO3; have hk3 := hO3.2.1; have hl3 := hO3.1; have hf3 := hO3.2.2; (try simp only [List.setIfInBounds_toArray, List.set_cons_zero, List.set_cons_succ] at hO3 hk3)
          go_wp2_with fail
          go_region_with (first | (go_at_call 87; refine (cut_restX _ s 16 _ hm (by omega) (by omega) ⟨by simp [hk2], by simp [hk2], by simp [hk2], by simp [hf2]⟩).mono ?_; rintro e w1 ⟨rfl, m, rfl⟩))
          all_goals (go_wp2; ((try simp only [Exit.inBlock, Exit.then]); refine bodyPost_ret (by simp [results, Try.results43, go_sem, hk0, hk3]; try rfl) rfl ?_); go_light; exact ⟨ret_v (by rw [HG.out, if_pos HC.out]; rfl), by (repeat' (first | (with_reducible exact Below.refl _ _) | (with_reducible refine below_alloc ?_ _) | (with_reducible refine Below.drew ?_) | (with_reducible refine below_drewN ?_ _) | (with_reducible refine Below.setCell ?_ ?_ _) | (with_reducible assumption) | (with_reducible refine below_of ?_ (by assumption)) | omega | (simp only [World.size_alloc, World.size_setCell, World.size_drew, size_drewN] at *; omega) | (simp; omega)))⟩)
        · have hcn : (Head.check (hd s true) != 0) = true := by simpa using hc
          have HC := Lib.hid hc
          clear hc
          refine (head_check (hd s true) _).mono ?_
          rintro e w1 ⟨rfl, hb⟩; have hz := hb.size; (try simp only [World.size_alloc, World.size_setCell, World.size_drew, size_drewN] at hz); apply own_step (B := w.heap.size) hb; (focus (repeat (first | (with_reducible assumption) | (with_reducible exact own_new _ _ _) | ((with_reducible apply own_new'); focus (first | omega | (simp; done) | (simp; omega))) | (with_reducible apply own_drewN) | (with_reducible apply own_drew) | (with_reducible apply own_alloc) | (with_reducible apply own_setT) | ((with_reducible apply own_set_otherH); focus (first | (simp; done) | (simp; omega)))))); intro hO0; have hk0 := hO0.2.1; have hl0 := hO0.1; have hf0 := hO0.2.2; (try simp only [List.setIfInBounds_toArray, List.set_cons_zero, List.set_cons_succ] at hO0 hk0); apply own_step (B := w.heap.size + 1) hb; (focus (repeat (first | (with_reducible assumption) | (with_reducible exact own_new _ _ _) | ((with_reducible apply own_new'); focus (first | omega | (simp; done) | (simp; omega))) | (with_reducible apply own_drewN) | (with_reducible apply own_drew) | (with_reducible apply own_alloc) | (with_reducible apply own_setT) | ((with_reducible apply own_set_otherH); focus (first | (simp; done) | (simp; omega)))))); intro hO1; have hk1 := hO1.2.1; have hl1 := hO1.1; have hf1 := hO1.2.2; (try simp only [List.setIfInBounds_toArray, List.set_cons_zero, List.set_cons_succ] at hO1 hk1)
          go_wp2_with fail
          ((try simp only [Exit.inBlock, Exit.then]); refine bodyPost_ret (by simp [results, Try.results43, go_sem, hk0, hk1]; try rfl) rfl ?_)
          exact ⟨ret_v (by rw [HG.out, if_neg HC.out]; rfl), by (repeat' (first | (with_reducible exact Below.refl _ _) | (with_reducible refine below_alloc ?_ _) | (with_reducible refine Below.drew ?_) | (with_reducible refine below_drewN ?_ _) | (with_reducible refine Below.setCell ?_ ?_ _) | (with_reducible assumption) | (with_reducible refine below_of ?_ (by assumption)) | omega | (simp only [World.size_alloc, World.size_setCell, World.size_drew, size_drewN] at *; omega) | (simp; omega)))⟩
      · have hor : (bits .or .i64 ((nu s 8 9 : Int) / 32) (nu s 9 10 : Int) != 0) = true := by
          rw [HOR.out]; simp only [Bool.not_eq_true', Bool.and_eq_false_iff, beq_eq_false_iff_ne]; omega
        have hg : get s = (hnone, ⟨#[]⟩, 4) := by simp only [get, if_neg hn12, if_pos hlong, if_neg h16, if_neg hsp]
        have HG := Lib.hid hg
        clear hg hlong hsp
        refine (cut_numX _ s 8 1 _ hm (by omega) (by omega) (by omega) (by omega) ⟨by simp [go_sem], by simp [go_sem], by simp [go_sem], by simp [go_sem]⟩).mono ?_
        rw [show Oct.val (s.extract ((8 : Int)).toNat ((8 : Int) + 1).toNat).data.toList = nu s 8 9 from rfl]
        rintro e w1 ⟨rfl, m, rfl⟩
        go_wp2_with fail
        refine (cut_numX _ s 9 1 _ hm (by omega) (by omega) (by omega) (by omega) ⟨by simp [go_sem], by simp [go_sem], by simp [go_sem], by simp [go_sem]⟩).mono ?_
        rw [show Oct.val (s.extract ((9 : Int)).toNat ((9 : Int) + 1).toNat).data.toList = nu s 9 10 from rfl]
        rintro e w1 ⟨rfl, m, rfl⟩
        go_wp2_with fail
        go_returns
        exact ⟨ret_v (by rw [HG.out]; rfl), by (repeat' (first | (with_reducible exact Below.refl _ _) | (with_reducible refine below_alloc ?_ _) | (with_reducible refine Below.drew ?_) | (with_reducible refine below_drewN ?_ _) | (with_reducible refine Below.setCell ?_ ?_ _) | (with_reducible assumption) | (with_reducible refine below_of ?_ (by assumption)) | omega | (simp only [World.size_alloc, World.size_setCell, World.size_drew, size_drewN] at *; omega) | (simp; omega)))⟩
  · have t1 : ((nu s 8 9 : Int) % 2 == 1) = false := by simp; omega
    by_cases hsp : nu s 8 9 / 32 = 0
    · have h32 : ((nu s 8 9 : Int) / 32 != 0) = false := by simp; omega
      have hg : get s = if Head.check (hd s false) = 0 then (hd s false, s.extract 12 s.size, 0) else (hnone, ⟨#[]⟩, Head.check (hd s false)) := by simp only [get, if_neg hn12, if_neg hlong, if_pos hsp]
      have HG := Lib.hid hg
      clear hg hlong hsp
      refine (cut_numX _ s 8 1 _ hm (by omega) (by omega) (by omega) (by omega) ⟨by simp [go_sem], by simp [go_sem], by simp [go_sem], by simp [go_sem]⟩).mono ?_
      rw [show Oct.val (s.extract ((8 : Int)).toNat ((8 : Int) + 1).toNat).data.toList = nu s 8 9 from rfl]
      rintro e w1 ⟨rfl, m, rfl⟩
      go_wp2_with fail
      refine (head_pick _ _ _ _).mono ?_
      rw [if_neg Bool.false_ne_true]
      rintro e w1 ⟨rfl, rfl⟩
      go_wp2_with fail
      refine (cut_numX _ s 9 3 _ hm (by omega) (by omega) (by omega) (by omega) ⟨by simp [go_sem], by simp [go_sem], by simp [go_sem], by simp [go_sem]⟩).mono ?_
      rw [show Oct.val (s.extract ((9 : Int)).toNat ((9 : Int) + 3).toNat).data.toList = nu s 9 12 from rfl]
      rintro e w1 ⟨rfl, m, rfl⟩
      go_wp2_with fail
      by_cases hc : Head.check (hd s false) = 0
      · have HC := Lib.hid hc
        clear hc
        refine (head_check (hd s false) _).mono ?_
        rw [HC.out]
        rintro e w1 ⟨rfl, hb⟩; have hz := hb.size; (try simp only [World.size_alloc, World.size_setCell, World.size_drew, size_drewN] at hz); apply own_step (B := w.heap.size) hb; (focus (repeat (first | (with_reducible assumption) | (with_reducible exact own_new _ _ _) | ((with_reducible apply own_new'); focus (first | omega | (simp; done) | (simp; omega))) | (with_reducible apply own_drewN) | (with_reducible apply own_drew) | (with_reducible apply own_alloc) | (with_reducible apply own_setT) | ((with_reducible apply own_set_otherH); focus (first | (simp; done) | (simp; omega)))))); intro hO0; have hk0 := hO0.2.1; have hl0 := hO0.1; have hf0 := hO0.2.2; (try simp only [List.setIfInBounds_toArray, List.set_cons_zero, List.set_cons_succ] at hO0 hk0); apply own_step (B := w.heap.size + 1) hb; (focus (repeat (first | (with_reducible assumption) | (with_reducible exact own_new _ _ _) | ((with_reducible apply own_new'); focus (first | omega | (simp; done) | (simp; omega))) | (with_reducible apply own_drewN) | (with_reducible apply own_drew) | (with_reducible apply own_alloc) | (with_reducible apply own_setT) | ((with_reducible apply own_set_otherH); focus (first | (simp; done) | (simp; omega)))))); intro hO1; have hk1 := hO1.2.1; have hl1 := hO1.1; have hf1 := hO1.2.2; (try simp only [List.setIfInBounds_toArray, List.set_cons_zero, List.set_cons_succ] at hO1 hk1); apply own_step (B := w.heap.size + 1 + 1) hb; (focus (repeat (first | (with_reducible assumption) | (with_reducible exact own_new _ _ _) | ((with_reducible apply own_new'); focus (first | omega | (simp; done) | (simp; omega))) | (with_reducible apply own_drewN) | (with_reducible apply own_drew) | (with_reducible apply own_alloc) | (with_reducible apply own_setT) | ((with_reducible apply own_set_otherH); focus (first | (simp; done) | (simp; omega)))))); intro hO2; have hk2 := hO2.2.1; have hl2 := hO2.1; have hf2 := hO2.2.2; (try simp only [List.setIfInBounds_toArray, List.set_cons_zero, List.set_cons_succ] at hO2 hk2); apply own_step (B := w.heap.size + 1 + 1 + 1) hb; (focus (repeat (first | (with_reducible assumption) | (with_reducible exact own_new _ _ _) | ((with_reducible apply own_new'); focus (first | omega | (simp; done) | (simp; omega))) | (with_reducible apply own_drewN) | (with_reducible apply own_drew) | (with_reducible apply own_alloc) | (with_reducible apply own_setT) | ((with_reducible apply own_set_otherH); focus (first | (simp; done) | (simp; omega)))))); intro hO3; have hk3 := hO3.2.1; have hl3 := hO3.1; have hf3 := hO3.2.2; (try simp only [List.setIfInBounds_toArray, List.set_cons_zero, List.set_cons_succ] at hO3 hk3)
        go_wp2_with fail
        go_region_with (first | (go_at_call 87; refine (cut_restX _ s 12 _ hm (by omega) (by omega) ⟨by simp [hk2], by simp [hk2], by simp [hk2], by simp [hf2]⟩).mono ?_; rintro e w1 ⟨rfl, m, rfl⟩))
        all_goals (go_wp2; ((try simp only [Exit.inBlock, Exit.then]); refine bodyPost_ret (by simp [results, Try.results43, go_sem, hk0, hk3]; try rfl) rfl ?_); go_light; exact ⟨ret_v (by rw [HG.out, if_pos HC.out]; rfl), by (repeat' (first | (with_reducible exact Below.refl _ _) | (with_reducible refine below_alloc ?_ _) | (with_reducible refine Below.drew ?_) | (with_reducible refine below_drewN ?_ _) | (with_reducible refine Below.setCell ?_ ?_ _) | (with_reducible assumption) | (with_reducible refine below_of ?_ (by assumption)) | omega | (simp only [World.size_alloc, World.size_setCell, World.size_drew, size_drewN] at *; omega) | (simp; omega)))⟩)
      · have hcn : (Head.check (hd s false) != 0) = true := by simpa using hc
        have HC := Lib.hid hc
        clear hc
        refine (head_check (hd s false) _).mono ?_
        rintro e w1 ⟨rfl, hb⟩; have hz := hb.size; (try simp only [World.size_alloc, World.size_setCell, World.size_drew, size_drewN] at hz); apply own_step (B := w.heap.size) hb; (focus (repeat (first | (with_reducible assumption) | (with_reducible exact own_new _ _ _) | ((with_reducible apply own_new'); focus (first | omega | (simp; done) | (simp; omega))) | (with_reducible apply own_drewN) | (with_reducible apply own_drew) | (with_reducible apply own_alloc) | (with_reducible apply own_setT) | ((with_reducible apply own_set_otherH); focus (first | (simp; done) | (simp; omega)))))); intro hO0; have hk0 := hO0.2.1; have hl0 := hO0.1; have hf0 := hO0.2.2; (try simp only [List.setIfInBounds_toArray, List.set_cons_zero, List.set_cons_succ] at hO0 hk0); apply own_step (B := w.heap.size + 1) hb; (focus (repeat (first | (with_reducible assumption) | (with_reducible exact own_new _ _ _) | ((with_reducible apply own_new'); focus (first | omega | (simp; done) | (simp; omega))) | (with_reducible apply own_drewN) | (with_reducible apply own_drew) | (with_reducible apply own_alloc) | (with_reducible apply own_setT) | ((with_reducible apply own_set_otherH); focus (first | (simp; done) | (simp; omega)))))); intro hO1; have hk1 := hO1.2.1; have hl1 := hO1.1; have hf1 := hO1.2.2; (try simp only [List.setIfInBounds_toArray, List.set_cons_zero, List.set_cons_succ] at hO1 hk1)
        go_wp2_with fail
        ((try simp only [Exit.inBlock, Exit.then]); refine bodyPost_ret (by simp [results, Try.results43, go_sem, hk0, hk1]; try rfl) rfl ?_)
        exact ⟨ret_v (by rw [HG.out, if_neg HC.out]; rfl), by (repeat' (first | (with_reducible exact Below.refl _ _) | (with_reducible refine below_alloc ?_ _) | (with_reducible refine Below.drew ?_) | (with_reducible refine below_drewN ?_ _) | (with_reducible refine Below.setCell ?_ ?_ _) | (with_reducible assumption) | (with_reducible refine below_of ?_ (by assumption)) | omega | (simp only [World.size_alloc, World.size_setCell, World.size_drew, size_drewN] at *; omega) | (simp; omega)))⟩
    · have h32 : ((nu s 8 9 : Int) / 32 != 0) = true := by simp; omega
      have hg : get s = (hnone, ⟨#[]⟩, 4) := by simp only [get, if_neg hn12, if_neg hlong, if_neg hsp]
      have HG := Lib.hid hg
      clear hg hlong hsp
      refine (cut_numX _ s 8 1 _ hm (by omega) (by omega) (by omega) (by omega) ⟨by simp [go_sem], by simp [go_sem], by simp [go_sem], by simp [go_sem]⟩).mono ?_
      rw [show Oct.val (s.extract ((8 : Int)).toNat ((8 : Int) + 1).toNat).data.toList = nu s 8 9 from rfl]
      rintro e w1 ⟨rfl, m, rfl⟩
      go_wp2_with fail
      go_returns
      exact ⟨ret_v (by rw [HG.out]; rfl), by (repeat' (first | (with_reducible exact Below.refl _ _) | (with_reducible refine below_alloc ?_ _) | (with_reducible refine Below.drew ?_) | (with_reducible refine below_drewN ?_ _) | (with_reducible refine Below.setCell ?_ ?_ _) | (with_reducible assumption) | (with_reducible refine below_of ?_ (by assumption)) | omega | (simp only [World.size_alloc, World.size_setCell, World.size_drew, size_drewN] at *; omega) | (simp; omega)))⟩
end Go.Proofs.Ytnhfhnphmjhamaa
