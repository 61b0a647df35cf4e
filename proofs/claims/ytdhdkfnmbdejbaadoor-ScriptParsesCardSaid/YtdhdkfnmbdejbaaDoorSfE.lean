/- A feed's functions, told by what waits in it. No conditions. -/
import Derived.Test.YtdhdkfnmbdejbaaDoorSfD
namespace Go.Proofs.YtdhdkfnmbdejbaaDoor
set_option linter.unusedVariables false
set_option linter.unusedSimpArgs false
open Go.RowKit Go.Conc

/-- three blocks at most have turned, and none is new -/
structure Tch (a b c : Nat) (w w' : World) : Prop where
  os : w'.os = w.os
  tape : w'.tape = w.tape
  output : w'.output = w.output
  size : w'.heap.size = w.heap.size
  block : ∀ k, k ≠ a → k ≠ b → k ≠ c → w'.heap[k]? = w.heap[k]?
theorem Tch.refl (a b c : Nat) (w : World) : Tch a b c w w := ⟨rfl, rfl, rfl, rfl, fun _ _ _ _ => rfl⟩
theorem Tch.trans {a b c : Nat} {w w1 w2 : World} (h : Tch a b c w w1) (k : Tch a b c w1 w2) : Tch a b c w w2 :=
  ⟨k.os.trans h.os, k.tape.trans h.tape, k.output.trans h.output, k.size.trans h.size, fun i x y z => (k.block i x y z).trans (h.block i x y z)⟩
theorem Tch.of_below {a b c : Nat} {w w' : World} (h : Below w.heap.size w w') (hs : w'.heap.size = w.heap.size) : Tch a b c w w' :=
  ⟨h.os, h.tape, h.output, hs, fun k _ _ _ => by
    by_cases hk : k < w.heap.size
    · exact h.block k hk
    · rw [Array.getElem?_eq_none (by omega), Array.getElem?_eq_none (by omega)]⟩
theorem Tch.below {a b c B : Nat} {w w' : World} (h : Tch a b c w w') (ha : B ≤ a) (hb : B ≤ b) (hc : B ≤ c) : Below B w w' :=
  ⟨h.os, h.tape, h.output, by rw [h.size]; exact Nat.le_refl _, fun k hk => h.block k (by omega) (by omega) (by omega)⟩
theorem set_same {w : World} {c cap : Nat} {buf : Array Value} {cl : Bool} {s r : Nat} {o : Obj} (h : w.heap[c]? = some o) : (w.setChan c cap buf cl s r false).heap[c]? = some (.chan cap buf cl s r false) := by
  have hlt : c < w.heap.size := by
    by_cases hc : c < w.heap.size
    · exact hc
    · rw [Array.getElem?_eq_none (by omega)] at h; cases h
  simp [World.setChan, Array.getElem?_setIfInBounds_self_of_lt hlt]
theorem set_other (w : World) {c c' cap : Nat} {buf : Array Value} {cl : Bool} {s r : Nat} (h : c' ≠ c) : (w.setChan c cap buf cl s r false).heap[c']? = w.heap[c']? := by
  simp [World.setChan, Array.getElem?_setIfInBounds_ne (Ne.symm h)]
theorem set_tch {a b c x cap : Nat} {w : World} {buf : Array Value} {cl : Bool} {s r : Nat} (hx : x = a ∨ x = b ∨ x = c) : Tch a b c w (w.setChan x cap buf cl s r false) :=
  ⟨rfl, rfl, rfl, by simp [World.setChan], fun k h1 h2 h3 => set_other w (by rcases hx with rfl | rfl | rfl <;> assumption)⟩
/-- the feed in another world, where its blocks stand -/
theorem FeedAt.move {w w' : World} {k a b c n : Nat} {U P : List ByteArray} {cl : Bool} (h : FeedAt w k a b c n U P cl) (hk : w'.heap[k]? = w.heap[k]?) (ha : w'.heap[a]? = w.heap[a]?) (hb : w'.heap[b]? = w.heap[b]?) (hc : w'.heap[c]? = w.heap[c]?) : FeedAt w' k a b c n U P cl := by
  have cell : ∀ j, w'.cell? ⟨k, j, none⟩ = w.cell? ⟨k, j, none⟩ := fun j => World.cell?_of_block (w := w) (a := ⟨k, j, none⟩) hk
  exact ⟨by rw [cell]; exact h.h0, by rw [cell]; exact h.h1, by rw [cell]; exact h.h2, by rw [ha]; exact h.hu, by rw [hb]; exact h.hp, by rw [hc]; exact h.hc, h.ne⟩
theorem lt_of_heap {w : World} {k : Nat} {o : Obj} (h : w.heap[k]? = some o) : k < w.heap.size := by
  by_cases hc : k < w.heap.size
  · exact hc
  · rw [Array.getElem?_eq_none (by omega)] at h; cases h
theorem lt_of_cell' {w : World} {p : Addr} {v : Value} (h : w.cell? p = some v) : p.block < w.heap.size := by
  by_cases hc : p.block < w.heap.size
  · exact hc
  · unfold World.cell? at h; rw [Array.getElem?_eq_none (by omega)] at h; cases h
theorem FeedAt.lt {w : World} {k a b c n : Nat} {U P : List ByteArray} {cl : Bool} (h : FeedAt w k a b c n U P cl) : k < w.heap.size ∧ a < w.heap.size ∧ b < w.heap.size ∧ c < w.heap.size := by
  obtain ⟨_, _, h1⟩ := h.hu
  obtain ⟨_, _, h2⟩ := h.hp
  obtain ⟨_, _, h3⟩ := h.hc
  exact ⟨lt_of_cell' h.h0, lt_of_heap h1, lt_of_heap h2, lt_of_heap h3⟩
theorem FeedAt.below {w w' : World} {k a b c n : Nat} {U P : List ByteArray} {cl : Bool} (h : FeedAt w k a b c n U P cl) (hb : Below w.heap.size w w') : FeedAt w' k a b c n U P cl := by
  obtain ⟨l0, l1, l2, l3⟩ := h.lt
  exact h.move (hb.block _ l0) (hb.block _ l1) (hb.block _ l2) (hb.block _ l3)
/-- what a line does: whether it is taken, and what waits then -/
def putF (cl : Bool) (n : Nat) (U P : List ByteArray) (l : ByteArray) : Bool × List ByteArray × List ByteArray :=
  if cl then (false, U, P)
  else if (cutV l).2 then (if U.length < n then (true, U ++ [(cutV l).1], P) else (false, U, P))
  else (if P.length < n then (true, U, P ++ [l]) else (false, U, P))
theorem put_at {w : World} {k a b c n : Nat} {U P : List ByteArray} {cl : Bool} (h : FeedAt w k a b c n U P cl) (l : ByteArray) :
    Calls Tryd.prog 15 #[.pointer (some ⟨k, 0, none⟩), .string l] w fun e w' => e = .returned (.bool (putF cl n U P l).1) ∧ FeedAt w' k a b c n (putF cl n U P l).2.1 (putF cl n U P l).2.2 cl ∧ Tch a b c w w' := by
  obtain ⟨su, ru, hu⟩ := h.hu
  obtain ⟨sp, rp, hp⟩ := h.hp
  obtain ⟨sc, rc, hc⟩ := h.hc
  obtain ⟨n1, n2, n3, n4, n5, n6⟩ := h.ne
  cases cl with
  | true =>
    refine (put_shut h.h2 hc).mono ?_
    rintro e w1 ⟨rfl, rfl⟩
    exact ⟨rfl, h, Tch.refl _ _ _ _⟩
  | false =>
    have hcut := cut_any l
    cases hq : (cutV l).2
    · rw [hq] at hcut
      by_cases hr : P.length < n
      · refine (put_p_room hcut h.h0 h.h1 h.h2 hc hp (by simpa using hr)).mono ?_
        rintro e w1 ⟨rfl, rfl⟩
        have e1 : putF false n U P l = (true, U, P ++ [l]) := by unfold putF; rw [if_neg (by decide), hq, if_neg (by decide), if_pos hr]
        rw [e1]
        refine ⟨rfl, ⟨?_, ?_, ?_, ⟨su, ru, by rw [set_other w n1]; exact hu⟩, ⟨sp + 1, rp, by rw [set_same hp]; simp⟩, ⟨sc, rc, by rw [set_other w n3.symm]; exact hc⟩, h.ne⟩, set_tch (.inr (.inl rfl))⟩
        · rw [World.cell?_of_block (w := w) (a := ⟨k, 0, none⟩) (set_other w n5)]; exact h.h0
        · rw [World.cell?_of_block (w := w) (a := ⟨k, 1, none⟩) (set_other w n5)]; exact h.h1
        · rw [World.cell?_of_block (w := w) (a := ⟨k, 2, none⟩) (set_other w n5)]; exact h.h2
      · refine (put_p_full hcut h.h0 h.h1 h.h2 hc hp (by simp; omega)).mono ?_
        rintro e w1 ⟨rfl, rfl⟩
        have e1 : putF false n U P l = (false, U, P) := by unfold putF; rw [if_neg (by decide), hq, if_neg (by decide), if_neg hr]
        rw [e1]
        exact ⟨rfl, h, Tch.refl _ _ _ _⟩
    · rw [hq] at hcut
      by_cases hr : U.length < n
      · refine (put_u_room hcut h.h0 h.h1 h.h2 hc hu (by simpa using hr)).mono ?_
        rintro e w1 ⟨rfl, rfl⟩
        have e1 : putF false n U P l = (true, U ++ [(cutV l).1], P) := by unfold putF; rw [if_neg (by decide), hq, if_pos rfl, if_pos hr]
        rw [e1]
        refine ⟨rfl, ⟨?_, ?_, ?_, ⟨su + 1, ru, by rw [set_same hu]; simp⟩, ⟨sp, rp, by rw [set_other w n1.symm]; exact hp⟩, ⟨sc, rc, by rw [set_other w n2.symm]; exact hc⟩, h.ne⟩, set_tch (.inl rfl)⟩
        · rw [World.cell?_of_block (w := w) (a := ⟨k, 0, none⟩) (set_other w n4)]; exact h.h0
        · rw [World.cell?_of_block (w := w) (a := ⟨k, 1, none⟩) (set_other w n4)]; exact h.h1
        · rw [World.cell?_of_block (w := w) (a := ⟨k, 2, none⟩) (set_other w n4)]; exact h.h2
      · refine (put_u_full hcut h.h0 h.h1 h.h2 hc hu (by simp; omega)).mono ?_
        rintro e w1 ⟨rfl, rfl⟩
        have e1 : putF false n U P l = (false, U, P) := by unfold putF; rw [if_neg (by decide), hq, if_pos rfl, if_neg hr]
        rw [e1]
        exact ⟨rfl, h, Tch.refl _ _ _ _⟩
theorem close_at {w : World} {k a b c n : Nat} {U P : List ByteArray} {cl : Bool} (h : FeedAt w k a b c n U P cl) :
    Calls Tryd.prog 14 #[.pointer (some ⟨k, 0, none⟩)] w fun e w' => e = .returned (.tuple #[]) ∧ FeedAt w' k a b c n U P true ∧ Tch a b c w w' := by
  obtain ⟨su, ru, hu⟩ := h.hu
  obtain ⟨sp, rp, hp⟩ := h.hp
  obtain ⟨sc, rc, hc⟩ := h.hc
  obtain ⟨n1, n2, n3, n4, n5, n6⟩ := h.ne
  cases cl with
  | true =>
    refine (close_shut h.h2 hc).mono ?_
    rintro e w1 ⟨rfl, rfl⟩
    exact ⟨rfl, h, Tch.refl _ _ _ _⟩
  | false =>
    refine (close_open h.h2 hc).mono ?_
    rintro e w1 ⟨rfl, rfl⟩
    refine ⟨rfl, ⟨?_, ?_, ?_, ⟨su, ru, by rw [set_other w n2]; exact hu⟩, ⟨sp, rp, by rw [set_other w n3]; exact hp⟩, ⟨sc, rc, by rw [set_same hc]⟩, h.ne⟩, set_tch (.inr (.inr rfl))⟩
    · rw [World.cell?_of_block (w := w) (a := ⟨k, 0, none⟩) (set_other w n6)]; exact h.h0
    · rw [World.cell?_of_block (w := w) (a := ⟨k, 1, none⟩) (set_other w n6)]; exact h.h1
    · rw [World.cell?_of_block (w := w) (a := ⟨k, 2, none⟩) (set_other w n6)]; exact h.h2
/-- the next line, and what waits then -/
def nextF : List ByteArray → List ByteArray → ByteArray × Bool × List ByteArray × List ByteArray
  | u :: U, P => (u, true, U, P)
  | [], p :: P => (p, true, [], P)
  | [], [] => (⟨#[]⟩, false, [], [])
theorem ext_tail (x : ByteArray) (U : List ByteArray) : (((x :: U).map Value.string).toArray).extract 1 ((x :: U).map Value.string).toArray.size = (U.map Value.string).toArray := by
  apply Array.ext'
  simp
  rw [List.take_of_length_le (by simp)]
theorem next_at {w : World} {k a b c n : Nat} {U P : List ByteArray} {cl : Bool} (h : FeedAt w k a b c n U P cl) :
    Calls Tryd.prog 17 #[.pointer (some ⟨k, 0, none⟩)] w fun e w' => e = .returned (.tuple #[.string (nextF U P).1, .bool (nextF U P).2.1]) ∧ FeedAt w' k a b c n (nextF U P).2.2.1 (nextF U P).2.2.2 cl ∧ Tch a b c w w' := by
  obtain ⟨su, ru, hu⟩ := h.hu
  obtain ⟨sp, rp, hp⟩ := h.hp
  obtain ⟨sc, rc, hc⟩ := h.hc
  obtain ⟨n1, n2, n3, n4, n5, n6⟩ := h.ne
  match U, P with
  | u :: U, P =>
    refine (next_u h.h0 (x := .string u) (by simp) (by simp) hu).mono ?_
    rintro e w1 ⟨rfl, rfl⟩
    refine ⟨rfl, ⟨?_, ?_, ?_, ⟨su, ru + 1, by rw [set_same hu, ext_tail]; rfl⟩, ⟨sp, rp, by rw [set_other w n1.symm]; exact hp⟩, ⟨sc, rc, by rw [set_other w n2.symm]; exact hc⟩, h.ne⟩, set_tch (.inl rfl)⟩
    · rw [World.cell?_of_block (w := w) (a := ⟨k, 0, none⟩) (set_other w n4)]; exact h.h0
    · rw [World.cell?_of_block (w := w) (a := ⟨k, 1, none⟩) (set_other w n4)]; exact h.h1
    · rw [World.cell?_of_block (w := w) (a := ⟨k, 2, none⟩) (set_other w n4)]; exact h.h2
  | [], p :: P =>
    refine (next_p h.h0 h.h1 (x := .string p) hu (by simp) (by simp) hp).mono ?_
    rintro e w1 ⟨rfl, rfl⟩
    refine ⟨rfl, ⟨?_, ?_, ?_, ⟨su, ru, by rw [set_other w n1]; exact hu⟩, ⟨sp, rp + 1, by rw [set_same hp, ext_tail]; rfl⟩, ⟨sc, rc, by rw [set_other w n3.symm]; exact hc⟩, h.ne⟩, set_tch (.inr (.inl rfl))⟩
    · rw [World.cell?_of_block (w := w) (a := ⟨k, 0, none⟩) (set_other w n5)]; exact h.h0
    · rw [World.cell?_of_block (w := w) (a := ⟨k, 1, none⟩) (set_other w n5)]; exact h.h1
    · rw [World.cell?_of_block (w := w) (a := ⟨k, 2, none⟩) (set_other w n5)]; exact h.h2
  | [], [] =>
    refine (next_0 h.h0 h.h1 hu hp).mono ?_
    rintro e w1 ⟨rfl, rfl⟩
    exact ⟨rfl, h, Tch.refl _ _ _ _⟩
theorem left_at {w : World} {k a b c n : Nat} {U P : List ByteArray} {cl : Bool} (h : FeedAt w k a b c n U P cl) (hs : U.length + P.length ≤ 1000000) :
    Calls Tryd.prog 16 #[.pointer (some ⟨k, 0, none⟩)] w fun e w' => e = .returned (.int .i64 ((U.length + P.length : Nat) : Int)) ∧ FeedAt w' k a b c n U P cl ∧ Tch a b c w w' := by
  obtain ⟨su, ru, hu⟩ := h.hu
  obtain ⟨sp, rp, hp⟩ := h.hp
  refine (left_any h.h0 h.h1 hu hp).mono ?_
  rintro e w1 ⟨rfl, q, rfl⟩
  refine ⟨?_, h.move (by rw [drewN_heap]) (by rw [drewN_heap]) (by rw [drewN_heap]) (by rw [drewN_heap]), ?_⟩
  · rw [show wrap64 (((U.map Value.string).toArray.size : Int) + ((P.map Value.string).toArray.size : Int)) = ((U.length + P.length : Nat) : Int) by rw [IntWalk.wrap64_in _ (by simp; omega)]; simp]
  · exact Tch.of_below (below_drewN (Below.refl _ _) q) (by rw [drewN_heap])
end Go.Proofs.YtdhdkfnmbdejbaaDoor
