/- The statement on feeds, walked. No conditions but that the library's table reads as it is laid. -/
import Derived.Test.YtdhdkfnmbdejbaaDoorSgR
namespace Go.Proofs.YtdhdkfnmbdejbaaDoor
set_option linter.unusedVariables false
set_option linter.unusedSimpArgs false
open Go.RowKit

theorem sl_head (p : Option Addr) (len cap n : Nat) (hn : n ≤ len) (hc : len ≤ cap) (W : World) : (Instr.slice 32 (.slice p len cap) none (some (.int .i64 (n : Int))) none).run Tryd.prog W = .ok (.slice p n cap) W := by
  have h0 : (0 : Int) ≤ (n : Int) := by omega
  have h1 : (n : Int) ≤ (cap : Int) := by omega
  cases p with
  | none => simp [go_sem, h0, h1]
  | some a => simp [go_sem, h0, h1]
theorem TxtAt.take {w : World} {p : Option Addr} {cap : Nat} {ls : List ByteArray} (h : TxtAt w (.slice p ls.length cap) ls) (n : Nat) (hn : n ≤ ls.length) : TxtAt w (.slice p n cap) (ls.take n) := by
  obtain ⟨p', cap', hv, h1, h2, hc⟩ := h
  injection hv with e1 e2 e3
  subst e1
  subst e3
  have hl : (ls.take n).length = n := by rw [List.length_take]; omega
  refine ⟨p, cap, by rw [hl], by omega, h2, fun i hi => ?_⟩
  rw [hl] at hi
  obtain ⟨a, ha, hx, hs⟩ := hc i (by omega)
  refine ⟨a, ha, ?_, hs⟩
  rw [List.getElem_take]
  exact hx
theorem wait_room (n : Nat) (ls : List ByteArray) : (waitL n ls).1.length ≤ n ∧ (waitL n ls).2.length ≤ n := by
  suffices h : ∀ (m : List ByteArray) (q : List ByteArray × List ByteArray), q.1.length ≤ n → q.2.length ≤ n → (m.foldl (fun q l => (putF false n q.1 q.2 l).2) q).1.length ≤ n ∧ (m.foldl (fun q l => (putF false n q.1 q.2 l).2) q).2.length ≤ n by
    exact h ls ([], []) (Nat.zero_le _) (Nat.zero_le _)
  intro m
  induction m with
  | nil => intro q h1 h2; exact ⟨h1, h2⟩
  | cons l m ih =>
    intro q h1 h2
    have := putF_room (l := l) h1 h2
    exact ih _ this.1 this.2
/-- behind so many lines, closed behind N -/
structure L1 (w w3 : World) (k a b c R N : Nat) (ls : List ByteArray) (B : Nat) (want : Value) (ws : List ByteArray) (i : Nat) (wx : World) : Prop where
  feed : FeedAt wx k a b c R (waitL R (ls.take (min i N))).1 (waitL R (ls.take (min i N))).2 (decide (N < i))
  row : wx.ownsRow B 9 1 want ws.length (ws.map Value.string)
  bel : Below w.heap.size w wx
  size : wx.heap.size = w3.heap.size
def cntL (R N : Nat) (ls : List ByteArray) (i : Nat) : Nat := (waitL R (ls.take (min i N))).1.length + (waitL R (ls.take (min i N))).2.length
theorem cntL_le (R N : Nat) (ls : List ByteArray) (i : Nat) : cntL R N ls i ≤ 2 * R := by
  have := wait_room R (ls.take (min i N))
  unfold cntL
  omega
theorem L1.left {w w3 wx : World} {k a b c R N B i : Nat} {ls ws : List ByteArray} {want : Value} (h : L1 w w3 k a b c R N ls B want ws i wx) (hR : R ≤ 100) : Calls Tryd.prog 16 #[.pointer (some ⟨k, 0, none⟩)] wx fun e w' => e = .returned (.int .i64 (cntL R N ls i : Int)) ∧ FeedAt w' k a b c R (waitL R (ls.take (min i N))).1 (waitL R (ls.take (min i N))).2 (decide (N < i)) ∧ Tch a b c wx w' :=
  left_at h.feed (by have := wait_room R (ls.take (min i N)); omega)
/-- one line more -/
theorem L1.put {w w3 wx : World} {k a b c R N B i : Nat} {ls ws : List ByteArray} {want : Value} {l : ByteArray} (hle : w.heap.size ≤ a ∧ w.heap.size ≤ b ∧ w.heap.size ≤ c) (hi : i < ls.length) (hN : i < N ∨ N < i) (hl : ls[i] = l) (h : L1 w w3 k a b c R N ls B want ws i wx) :
    ∃ ok : Bool, cntL R N ls (i + 1) = cntL R N ls i + (if ok then 1 else 0) ∧ Calls Tryd.prog 15 #[.pointer (some ⟨k, 0, none⟩), .string l] wx fun e w' => e = .returned (.bool ok) ∧ L1 w w3 k a b c R N ls B want ws (i + 1) w' := by
  have hp := put_at h.feed l
  rcases hN with hlt | hgt
  · have e1 : min i N = i := by omega
    have e2 : min (i + 1) N = i + 1 := by omega
    have hw := wait_snoc R (ls.take i) l
    rw [← hl, ← list_take_succ hi, hl] at hw
    rw [e1, decide_eq_false (show ¬ N < i by omega)] at hp
    refine ⟨_, ?_, hp.mono fun e w' ⟨he, hF, ht⟩ => ⟨he, ?_, row_tch h.feed ht h.row, h.bel.trans (ht.below hle.1 hle.2.1 hle.2.2), ht.size.trans h.size⟩⟩
    · unfold cntL
      rw [e1, e2, hw]
      exact putF_count _ _ _ _ _
    · rw [e2, hw, decide_eq_false (show ¬ N < i + 1 by omega)]
      exact hF
  · have e1 : min i N = N := by omega
    have e2 : min (i + 1) N = N := by omega
    rw [e1, decide_eq_true (show N < i by omega), putF_shut] at hp
    refine ⟨false, ?_, hp.mono fun e w' ⟨he, hF, ht⟩ => ⟨he, ?_, row_tch h.feed ht h.row, h.bel.trans (ht.below hle.1 hle.2.1 hle.2.2), ht.size.trans h.size⟩⟩
    · unfold cntL
      rw [e1, e2]
      rfl
    · rw [e2, decide_eq_true (show N < i + 1 by omega)]
      exact hF
/-- closed here -/
structure L1c (w w3 : World) (k a b c R N : Nat) (ls : List ByteArray) (B : Nat) (want : Value) (ws : List ByteArray) (wx : World) : Prop where
  feed : ∃ cl, FeedAt wx k a b c R (waitL R (ls.take N)).1 (waitL R (ls.take N)).2 cl
  row : wx.ownsRow B 9 1 want ws.length (ws.map Value.string)
  bel : Below w.heap.size w wx
  size : wx.heap.size = w3.heap.size
theorem L1.open_ {w w3 wx : World} {k a b c R N B i : Nat} {ls ws : List ByteArray} {want : Value} (h : L1 w w3 k a b c R N ls B want ws i wx) (hi : N ≤ i) : L1c w w3 k a b c R N ls B want ws wx := by
  have e1 : min i N = N := by omega
  have := h.feed
  rw [e1] at this
  exact ⟨⟨_, this⟩, h.row, h.bel, h.size⟩
theorem L1c.close {w w3 wx : World} {k a b c R N B : Nat} {ls ws : List ByteArray} {want : Value} (hle : w.heap.size ≤ a ∧ w.heap.size ≤ b ∧ w.heap.size ≤ c) (h : L1c w w3 k a b c R N ls B want ws wx) :
    Calls Tryd.prog 14 #[.pointer (some ⟨k, 0, none⟩)] wx fun e w' => e = .returned (.tuple #[]) ∧ (L1c w w3 k a b c R N ls B want ws w' ∧ L1 w w3 k a b c R N ls B want ws (N + 1) w') := by
  obtain ⟨cl, hF0⟩ := h.feed
  refine (close_at hF0).mono fun e w' ⟨he, hF, ht⟩ => ⟨he, ?_⟩
  have r := row_tch hF0 ht h.row
  have bl := h.bel.trans (ht.below hle.1 hle.2.1 hle.2.2)
  have sz := ht.size.trans h.size
  refine ⟨⟨⟨_, hF⟩, r, bl, sz⟩, ⟨?_, r, bl, sz⟩⟩
  rw [show min (N + 1) N = N by omega, decide_eq_true (Nat.lt_succ_self N)]
  exact hF
/-- a line that is put behind the end -/
theorem L1c.put {w w3 wx : World} {k a b c R N B : Nat} {ls ws : List ByteArray} {want : Value} {l : ByteArray} (hle : w.heap.size ≤ a ∧ w.heap.size ≤ b ∧ w.heap.size ≤ c) (h : L1 w w3 k a b c R N ls B want ws (N + 1) wx) :
    Calls Tryd.prog 15 #[.pointer (some ⟨k, 0, none⟩), .string l] wx fun e w' => e = .returned (.bool false) ∧ L1 w w3 k a b c R N ls B want ws (N + 1) w' := by
  have hp := put_at h.feed l
  rw [decide_eq_true (Nat.lt_succ_self N), putF_shut] at hp
  exact hp.mono fun e w' ⟨he, hF, ht⟩ => ⟨he, by rw [decide_eq_true (Nat.lt_succ_self N)]; exact hF, row_tch h.feed ht h.row, h.bel.trans (ht.below hle.1 hle.2.1 hle.2.2), ht.size.trans h.size⟩
theorem cntL_same (R N : Nat) (ls : List ByteArray) : cntL R N ls (N + 1) = cntL R N ls N := by
  unfold cntL
  rw [show min (N + 1) N = N by omega, show min N N = N by omega]
end Go.Proofs.YtdhdkfnmbdejbaaDoor
