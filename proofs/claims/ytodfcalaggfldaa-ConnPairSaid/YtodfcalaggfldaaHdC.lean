/- Bytes that are read from the front on (octets.Cut): contracts of its methods. Conditions: the reader is one of the call's own, it has read no more than there is. -/
import Derived.Test.YtodfcalaggfldaaOctA
import Derived.Test.YtodfcalaggfldaaHdA
namespace Go.Proofs.Ytodfcalaggfldaa
set_option linter.unusedVariables false
set_option linter.unusedSimpArgs false
open Go.RowKit

/-! only one block may have been written -/
theorem grow_refl (w : World) (r : Option Nat) : w.grownBy w r := ⟨rfl, rfl, rfl, Nat.le_refl _, fun _ _ _ => rfl⟩
theorem grow_trans {a b c : World} {r : Option Nat} (h : a.grownBy b r) (k : b.grownBy c r) : a.grownBy c r :=
  ⟨k.os.trans h.os, k.tape.trans h.tape, k.output.trans h.output, Nat.le_trans h.size k.size, fun i hi hne => (k.block i (Nat.lt_of_lt_of_le hi h.size) hne).trans (h.block i hi hne)⟩
theorem grow_drewN {a w : World} {r : Option Nat} (h : a.grownBy w r) (n : Nat) : a.grownBy (w.drewN n) r := ⟨h.os, h.tape, h.output, h.size, h.block⟩
theorem grow_drew {a w : World} {r : Option Nat} (h : a.grownBy w r) : a.grownBy w.drew r := ⟨h.os, h.tape, h.output, h.size, h.block⟩
theorem grow_alloc {a w : World} {r : Option Nat} (h : a.grownBy w r) (o : Obj) : a.grownBy (w.alloc o) r :=
  grow_trans h (World.grownBy_alloc w o r)
theorem grow_set {a w : World} {B : Nat} (h : a.grownBy w (some B)) (i : Nat) (v : Value) : a.grownBy (w.setCell ⟨B, i, none⟩ v) (some B) :=
  grow_trans h ⟨rfl, rfl, rfl, by simp, fun k _ hne => Below.heap_setCell _ _ _ _ (fun e => hne (by rw [e]))⟩
theorem grow_below {a w w' : World} {r : Option Nat} (h : a.grownBy w r) (hb : Below w.heap.size w w') : a.grownBy w' r :=
  grow_trans h ⟨hb.os, hb.tape, hb.output, hb.size, fun k hk _ => hb.block k hk⟩
theorem below_grow {base : Nat} {a w w' : World} {B : Nat} (h : Below base a w) (hg : w.grownBy w' (some B)) (hB : base ≤ B) (hs : base ≤ w.heap.size) : Below base a w' :=
  h.trans ⟨hg.os, hg.tape, hg.output, hg.size, fun k hk => hg.block k (by omega) (fun e => by injection e with e; omega)⟩
theorem own_grow {W w1 : World} {B B' : Nat} {cs : Array Value} (h : Own W B' cs) (hne : B' ≠ B) (hg : W.grownBy w1 (some B)) : Own w1 B' cs :=
  ⟨Nat.lt_of_lt_of_le h.1 hg.size, fun j => (World.cell?_of_block (a := ⟨B', j, none⟩) (hg.block B' h.1 (fun e => hne (by injection e)))).trans (h.2.1 j),
    fun j => (World.frozen?_of_block (a := ⟨B', j, none⟩) (hg.block B' h.1 (fun e => hne (by injection e)))).trans (h.2.2 j)⟩
theorem cell_grow {W w1 : World} {B : Nat} {p : Addr} {v : Value} (hg : W.grownBy w1 (some B)) (hne : p.block ≠ B) (h : W.cell? p = some v) : w1.cell? p = some v :=
  (World.cell?_of_block (hg.block p.block (lt_of_cell h) (fun e => hne (by injection e)))).trans h

/-- what is wrong behind an asking for n bytes -/
def cutFell (size at_ : Nat) (fell n : Int) (wrong : Bool) : Int := if fell ≠ 0 then fell else if wrong = true then 3 else if (size : Int) - at_ < n then 1 else 0
theorem cut_take (B : Nat) (s : ByteArray) (at_ : Nat) (fell n : Int) (wrong : Bool) (w : World) (hs : s.size ≤ maxLen) (ha : at_ ≤ s.size) (hO : Own w B #[.string s, .int .i64 at_, .int .i64 fell]) :
    Calls Try.prog 129 #[.pointer (some ⟨B, 0, none⟩), .int .i64 n, .bool wrong] w fun e w' => e = .returned (.bool (decide (cutFell s.size at_ fell n wrong = 0))) ∧
      Own w' B #[.string s, .int .i64 at_, .int .i64 (cutFell s.size at_ fell n wrong)] ∧ w.grownBy w' (some B) := by
  unfold maxLen at hs
  have hk := hO.2.1
  have hl := hO.1
  have hf := hO.2.2
  unfold cutFell
  by_cases h0 : fell = 0
  · subst h0
    cases wrong
    · by_cases hn : (s.size : Int) - at_ < n
      · simp only [ne_eq, not_true_eq_false, if_false, Bool.false_eq_true, if_pos hn]
        go_enter Try.func129, Try.ntmps129
        go_wp2
        go_quiet (fail)
        go_wp2
        go_ret
        exact ⟨rfl, by ((with_reducible apply own_conv); (focus (repeat (first | (with_reducible assumption) | (with_reducible exact own_new _ _ _) | ((with_reducible apply own_new'); focus (first | omega | (simp; done) | (simp; omega))) | (with_reducible apply own_drewN) | (with_reducible apply own_drew) | (with_reducible apply own_alloc) | (with_reducible apply own_setT) | ((with_reducible apply own_set_otherH); focus (first | (simp; done) | (simp; omega)))))); simp), by (repeat (first | (with_reducible exact grow_refl _ _) | (with_reducible refine grow_drewN ?_ _) | (with_reducible refine grow_drew ?_) | (with_reducible refine grow_alloc ?_ _) | (with_reducible refine grow_set ?_ _ _) | (with_reducible assumption)))⟩
      · simp only [ne_eq, not_true_eq_false, if_false, Bool.false_eq_true, if_neg hn]
        go_enter Try.func129, Try.ntmps129
        go_wp2
        go_quiet (fail)
        go_wp2
        go_ret
        exact ⟨rfl, own_drewN hO _, by (repeat (first | (with_reducible exact grow_refl _ _) | (with_reducible refine grow_drewN ?_ _) | (with_reducible refine grow_drew ?_) | (with_reducible refine grow_alloc ?_ _) | (with_reducible refine grow_set ?_ _ _) | (with_reducible assumption)))⟩
    · simp only [ne_eq, not_true_eq_false, if_false, if_true]
      go_enter Try.func129, Try.ntmps129
      go_wp2
      go_ret
      exact ⟨rfl, by ((with_reducible apply own_conv); (focus (repeat (first | (with_reducible assumption) | (with_reducible exact own_new _ _ _) | ((with_reducible apply own_new'); focus (first | omega | (simp; done) | (simp; omega))) | (with_reducible apply own_drewN) | (with_reducible apply own_drew) | (with_reducible apply own_alloc) | (with_reducible apply own_setT) | ((with_reducible apply own_set_otherH); focus (first | (simp; done) | (simp; omega)))))); simp), by (repeat (first | (with_reducible exact grow_refl _ _) | (with_reducible refine grow_drewN ?_ _) | (with_reducible refine grow_drew ?_) | (with_reducible refine grow_alloc ?_ _) | (with_reducible refine grow_set ?_ _ _) | (with_reducible assumption)))⟩
  · have hne : (fell != 0) = true := by simpa using h0
    have hd : decide (fell = 0) = false := by simpa using h0
    simp only [ne_eq, h0, not_false_eq_true, if_true, hd]
    go_enter Try.func129, Try.ntmps129
    go_wp2
    go_ret
    exact ⟨rfl, hO, by (repeat (first | (with_reducible exact grow_refl _ _) | (with_reducible refine grow_drewN ?_ _) | (with_reducible refine grow_drew ?_) | (with_reducible refine grow_alloc ?_ _) | (with_reducible refine grow_set ?_ _ _) | (with_reducible assumption)))⟩
/-- a reader, all is right so far: n bytes are read -/
theorem cut_bytes (B : Nat) (s : ByteArray) (at_ n : Nat) (w : World) (hs : s.size ≤ maxLen) (ha : at_ + n ≤ s.size) (hO : Own w B #[.string s, .int .i64 at_, .int .i64 0]) :
    Calls Try.prog 122 #[.pointer (some ⟨B, 0, none⟩), .int .i64 n] w fun e w' => e = .returned (.string (s.extract at_ (at_ + n))) ∧
      Own w' B #[.string s, .int .i64 (at_ + n : Nat), .int .i64 0] ∧ w.grownBy w' (some B) := by
  have ht := cut_take B s at_ 0 n false w hs (by omega) hO
  rw [show cutFell s.size at_ 0 n false = 0 by unfold cutFell; simp; omega] at ht
  have HT := Lib.hid ht
  clear ht
  unfold maxLen at hs
  have hneg : decide ((n : Int) < 0) = false := by simp
  have h1 : (at_ : Int) + n ≤ (s.size : Int) := by omega
  go_enter Try.func122, Try.ntmps122
  go_wp2_with fail
  refine HT.out.mono ?_
  rintro e w1 ⟨rfl, hO1, hg1⟩
  have hk := hO1.2.1
  have hl := hO1.1
  have hf := hO1.2.2
  go_wp2
  go_quiet (fail)
  go_wp2
  go_ret
  exact ⟨rfl, by ((with_reducible apply own_conv); (focus (repeat (first | (with_reducible assumption) | (with_reducible exact own_new _ _ _) | ((with_reducible apply own_new'); focus (first | omega | (simp; done) | (simp; omega))) | (with_reducible apply own_drewN) | (with_reducible apply own_drew) | (with_reducible apply own_alloc) | (with_reducible apply own_setT) | ((with_reducible apply own_set_otherH); focus (first | (simp; done) | (simp; omega)))))); simp), by have := hg1; (repeat (first | (with_reducible exact grow_refl _ _) | (with_reducible refine grow_drewN ?_ _) | (with_reducible refine grow_drew ?_) | (with_reducible refine grow_alloc ?_ _) | (with_reducible refine grow_set ?_ _ _) | (with_reducible assumption)))⟩
theorem cut_left (B : Nat) (s : ByteArray) (at_ : Nat) (fell : Int) (w : World) (hs : s.size ≤ maxLen) (ha : at_ ≤ s.size) (hO : Own w B #[.string s, .int .i64 at_, .int .i64 fell]) :
    Calls Try.prog 123 #[.pointer (some ⟨B, 0, none⟩)] w fun e w' => e = .returned (.int .i64 ((s.size - at_ : Nat) : Int)) ∧ ∃ n, w.drewN n = w' := by
  unfold maxLen at hs
  have hk := hO.2.1
  have e0 : ((s.size - at_ : Nat) : Int) = (s.size : Int) - at_ := by omega
  rw [e0]
  clear e0
  go_enter Try.func123, Try.ntmps123
  go_wp2
  go_quiet (fail)
  go_wp2
  go_ret
  exact ⟨rfl, _, rfl⟩
theorem cut_rest (B : Nat) (s : ByteArray) (at_ : Nat) (w : World) (hs : s.size ≤ maxLen) (ha : at_ ≤ s.size) (hO : Own w B #[.string s, .int .i64 at_, .int .i64 0]) :
    Calls Try.prog 89 #[.pointer (some ⟨B, 0, none⟩)] w fun e w' => e = .returned (.string (s.extract at_ s.size)) ∧
      Own w' B #[.string s, .int .i64 s.size, .int .i64 0] ∧ w.grownBy w' (some B) := by
  go_enter Try.func89, Try.ntmps89
  go_wp2_with fail
  refine (cut_left B s at_ 0 w hs ha hO).mono ?_
  rintro e w1 ⟨rfl, nd, rfl⟩
  go_wp2_with fail
  refine (cut_bytes B s at_ (s.size - at_) _ hs (by omega) (own_drewN hO _)).mono ?_
  rw [show at_ + (s.size - at_) = s.size by omega]
  rintro e w2 ⟨rfl, hO2, hg⟩
  go_wp2
  go_ret
  exact ⟨rfl, hO2, grow_trans (grow_drewN (grow_refl _ _) _) hg⟩
theorem cut_num (B : Nat) (s : ByteArray) (at_ n : Nat) (w : World) (hs : s.size ≤ maxLen) (hn : 1 ≤ n) (hn7 : n ≤ 7) (ha : at_ + n ≤ s.size) (hO : Own w B #[.string s, .int .i64 at_, .int .i64 0]) :
    Calls Try.prog 119 #[.pointer (some ⟨B, 0, none⟩), .int .i64 n] w fun e w' => e = .returned (.int .i64 (Oct.val (s.extract at_ (at_ + n)).data.toList : Nat)) ∧
      Own w' B #[.string s, .int .i64 (at_ + n : Nat), .int .i64 0] ∧ w.grownBy w' (some B) := by
  have ht := cut_take B s at_ 0 n false w hs (by omega) hO
  rw [show cutFell s.size at_ 0 n false = 0 by unfold cutFell; simp; omega] at ht
  have HT := Lib.hid ht
  clear ht
  have hx : (s.extract at_ (at_ + n)).size ≤ maxLen := by rw [ByteArray.size_extract]; omega
  have hv : Oct.val (s.extract at_ (at_ + n)).data.toList < 72057594037927936 := Oct.val_small (by simp; omega)
  have ho := fun W => oct_of (s.extract at_ (at_ + n)) hx W
  have HO := Lib.hid ho
  clear ho hx
  have h1 : decide ((n : Int) < 1) = false := by simp; omega
  have h2 : decide (7 < (n : Int)) = false := by simp; omega
  go_enter Try.func119, Try.ntmps119
  go_wp2_with fail
  refine HT.out.mono ?_
  rintro e w1 ⟨rfl, hO1, hg1⟩
  go_wp2_with fail
  refine (cut_bytes B s at_ n _ hs ha hO1).mono ?_
  rintro e w2 ⟨rfl, hO2, hg2⟩
  go_wp2_with fail
  refine (HO.out _).mono ?_
  generalize hgv : Oct.val (s.extract at_ (at_ + n)).data.toList = v at *
  have HG := Lib.hid hgv
  clear hgv
  rw [show wrap64 ((v % 18446744073709551616 : Nat) : Int) = (v : Int) by unfold wrap64; omega]
  rintro e w3 ⟨rfl, rfl⟩
  go_wp2
  go_ret
  exact ⟨ret_i (by rw [HG.out]), hO2, grow_trans hg1 hg2⟩
theorem cut_new (s : ByteArray) (w : World) : Calls Try.prog 85 #[.string s] w fun e w' => e = .returned (.pointer (some ⟨w.heap.size, 0, none⟩)) ∧ w' = w.alloc (.cells #[.string s, .int .i64 0, .int .i64 0] 144) := by
  go_enter Try.func85, Try.ntmps85
  go_wp2
  go_ret
  exact ⟨rfl, rfl⟩
end Go.Proofs.Ytodfcalaggfldaa
namespace Go.Proofs.Ytodfcalaggfldaa
set_option linter.unusedVariables false
set_option linter.unusedSimpArgs false
open Go.RowKit

theorem drew_set_drew (w : World) (p : Addr) (v : Value) (a b : Nat) : (w.setCell p v).drewN (a + b) = ((w.drewN a).setCell p v).drewN b := by
  simp [World.drewN, World.setCell, Nat.add_assoc]
/-- block B is a reader of s that has read at_ bytes, and has not failed -/
def Reads (w : World) (B : Nat) (s : ByteArray) (at_ : Int) : Prop :=
  w.cell? ⟨B, 0, none⟩ = some (.string s) ∧ w.cell? ⟨B, 1, none⟩ = some (.int .i64 at_) ∧ w.cell? ⟨B, 2, none⟩ = some (.int .i64 0) ∧ w.frozen? ⟨B, 1, none⟩ = false
theorem cut_takeX (B : Nat) (s : ByteArray) (at_ n : Int) (w : World) (hs : s.size ≤ maxLen) (h0 : 0 ≤ at_) (ha : at_ ≤ s.size) (hn : at_ + n ≤ s.size) (hR : Reads w B s at_) :
    Calls Try.prog 129 #[.pointer (some ⟨B, 0, none⟩), .int .i64 n, .bool false] w fun e w' => e = .returned (.bool true) ∧ ∃ m, w.drewN m = w' := by
  unfold maxLen at hs
  obtain ⟨c0, c1, c2, f1⟩ := hR
  have hd : decide ((s.size : Int) - at_ < n) = false := by simp; omega
  go_enter Try.func129, Try.ntmps129
  go_wp2
  go_quiet (fail)
  go_wp2
  go_ret
  exact ⟨rfl, _, rfl⟩
theorem cut_bytesX (B : Nat) (s : ByteArray) (at_ n : Int) (w : World) (hs : s.size ≤ maxLen) (h0 : 0 ≤ at_) (hn0 : 0 ≤ n) (hn : at_ + n ≤ s.size) (hR : Reads w B s at_) :
    Calls Try.prog 122 #[.pointer (some ⟨B, 0, none⟩), .int .i64 n] w fun e w' => e = .returned (.string (s.extract at_.toNat (at_ + n).toNat)) ∧ ∃ m, (w.setCell ⟨B, 1, none⟩ (.int .i64 (at_ + n))).drewN m = w' := by
  have ht := fun n' w' => cut_takeX B s at_ n' w' hs h0
  have HT := Lib.hid ht
  clear ht
  have HR := Lib.hid hR
  unfold maxLen at hs
  obtain ⟨c0, c1, c2, f1⟩ := hR
  have hneg : decide (n < 0) = false := by simp; omega
  have hle : at_ + n ≤ (s.size : Int) := hn
  go_enter Try.func122, Try.ntmps122
  go_wp2_with fail
  refine (HT.out _ _ (by omega) hn HR.out).mono ?_
  rintro e w1 ⟨rfl, m1, rfl⟩
  go_wp2
  go_quiet (fail)
  go_wp2
  go_ret
  exact ⟨rfl, _, drew_set_drew _ _ _ _ _⟩
theorem reads_drewN {w : World} {B : Nat} {s : ByteArray} {at_ : Int} (h : Reads w B s at_) (n : Nat) : Reads (w.drewN n) B s at_ := h
theorem cut_numX (B : Nat) (s : ByteArray) (at_ n : Int) (w : World) (hs : s.size ≤ maxLen) (h0 : 0 ≤ at_) (hn0 : 1 ≤ n) (hn7 : n ≤ 7) (hn : at_ + n ≤ s.size) (hR : Reads w B s at_) :
    Calls Try.prog 119 #[.pointer (some ⟨B, 0, none⟩), .int .i64 n] w fun e w' => e = .returned (.int .i64 (Oct.val (s.extract at_.toNat (at_ + n).toNat).data.toList : Nat)) ∧ ∃ m, (w.setCell ⟨B, 1, none⟩ (.int .i64 (at_ + n))).drewN m = w' := by
  have ht := fun n' w' => cut_takeX B s at_ n' w' hs h0
  have HT := Lib.hid ht
  clear ht
  have hbt := fun w' => cut_bytesX B s at_ n w' hs h0 (by omega) hn
  have HB := Lib.hid hbt
  clear hbt
  have HR := Lib.hid hR
  clear hR
  have hx : (s.extract at_.toNat (at_ + n).toNat).size ≤ maxLen := by rw [ByteArray.size_extract]; omega
  have hv : Oct.val (s.extract at_.toNat (at_ + n).toNat).data.toList < 72057594037927936 := Oct.val_small (by simp; omega)
  have ho := fun W => oct_of (s.extract at_.toNat (at_ + n).toNat) hx W
  have HO := Lib.hid ho
  clear ho hx
  have h1 : decide (n < 1) = false := by simp; omega
  have h2 : decide (7 < n) = false := by simp; omega
  go_enter Try.func119, Try.ntmps119
  go_wp2_with fail
  refine (HT.out _ _ (by omega) hn HR.out).mono ?_
  rintro e w1 ⟨rfl, m1, rfl⟩
  go_wp2_with fail
  refine (HB.out _ (reads_drewN HR.out _)).mono ?_
  rintro e w2 ⟨rfl, m2, rfl⟩
  go_wp2_with fail
  refine (HO.out _).mono ?_
  generalize hgv : Oct.val (s.extract at_.toNat (at_ + n).toNat).data.toList = v at *
  have HG := Lib.hid hgv
  clear hgv
  rw [show wrap64 ((v % 18446744073709551616 : Nat) : Int) = (v : Int) by unfold wrap64; omega]
  rintro e w3 ⟨rfl, rfl⟩
  go_wp2
  go_ret
  exact ⟨ret_i (by rw [HG.out]), _, drew_set_drew _ _ _ _ _⟩
theorem cut_restX (B : Nat) (s : ByteArray) (at_ : Int) (w : World) (hs : s.size ≤ maxLen) (h0 : 0 ≤ at_) (ha : at_ ≤ s.size) (hR : Reads w B s at_) :
    Calls Try.prog 89 #[.pointer (some ⟨B, 0, none⟩)] w fun e w' => e = .returned (.string (s.extract at_.toNat s.size)) ∧ ∃ m, (w.setCell ⟨B, 1, none⟩ (.int .i64 s.size)).drewN m = w' := by
  have hbt := fun w' => cut_bytesX B s at_ (s.size - at_) w' hs h0 (by omega) (by omega)
  rw [show at_ + ((s.size : Int) - at_) = s.size by omega, show ((s.size : Int)).toNat = s.size by omega] at hbt
  have HB := Lib.hid hbt
  clear hbt
  have HR := Lib.hid hR
  unfold maxLen at hs
  obtain ⟨c0, c1, c2, f1⟩ := hR
  have hl : ∀ W : World, W.cell? ⟨B, 0, none⟩ = some (.string s) → W.cell? ⟨B, 1, none⟩ = some (.int .i64 at_) → Calls Try.prog 123 #[.pointer (some ⟨B, 0, none⟩)] W fun e w' => e = .returned (.int .i64 (s.size - at_)) ∧ ∃ m, W.drewN m = w' := by
    intro W d0 d1
    clear c0 c1 c2 f1
    go_enter Try.func123, Try.ntmps123
    go_wp2
    go_quiet (fail)
    go_wp2
    go_ret
    exact ⟨rfl, _, rfl⟩
  have HL := Lib.hid hl
  clear hl
  go_enter Try.func89, Try.ntmps89
  go_wp2_with fail
  refine (HL.out _ c0 c1).mono ?_
  rintro e w1 ⟨rfl, m1, rfl⟩
  go_wp2_with fail
  refine (HB.out _ (reads_drewN HR.out _)).mono ?_
  rintro e w2 ⟨rfl, m2, rfl⟩
  go_wp2
  go_ret
  exact ⟨rfl, _, drew_set_drew _ _ _ _ _⟩
end Go.Proofs.Ytodfcalaggfldaa
namespace Go.Proofs.Ytodfcalaggfldaa
set_option linter.unusedVariables false
set_option linter.unusedSimpArgs false
open Go.RowKit

set_option maxRecDepth 100000 in
set_option maxHeartbeats 4000000 in
theorem head_put_ok (src dst words ccval cover sum kind seq : Int) (long : Bool) (w : World) (hc : Head.check ⟨src, dst, words, ccval, cover, sum, kind, long, seq⟩ = 0) :
    Calls Try.prog 50 #[(⟨src, dst, words, ccval, cover, sum, kind, long, seq⟩ : Head.H).v] w fun e w' => e = .returned (.tuple #[.string ⟨(Head.put ⟨src, dst, words, ccval, cover, sum, kind, long, seq⟩).toArray⟩, .int .i64 0]) ∧ Below w.heap.size w w' := by
  have HC := Lib.hid hc
  clear hc
  go_enter Try.func50, Try.ntmps50
  go_wp2_with fail
  refine (head_check ⟨src, dst, words, ccval, cover, sum, kind, long, seq⟩ _).mono ?_
  rw [HC.out]
  rintro e w1 ⟨rfl, hb⟩; have hz := hb.size; (try simp only [World.size_alloc, World.size_setCell, World.size_drew, size_drewN] at hz); apply own_step (B := w.heap.size) hb; (focus (repeat (first | (with_reducible assumption) | (with_reducible exact own_new _ _ _) | ((with_reducible apply own_new'); focus (first | omega | (simp; done) | (simp; omega))) | (with_reducible apply own_drewN) | (with_reducible apply own_drew) | (with_reducible apply own_alloc) | (with_reducible apply own_setT) | ((with_reducible apply own_set_otherH); focus (first | (simp; done) | (simp; omega)))))); intro hO0; have hk0 := hO0.2.1; have hl0 := hO0.1; have hf0 := hO0.2.2; (try simp only [List.setIfInBounds_toArray, List.set_cons_zero, List.set_cons_succ] at hO0 hk0)
  go_wp2_with fail
  go_region_held3 (fun w' => w'.cell? ⟨w.heap.size, 0, none⟩ = some (.int .i64 src) ∧ w'.cell? ⟨w.heap.size, 1, none⟩ = some (.int .i64 dst)) (go_keep) (first | (go_at_call 96; refine (oct_putL _ _ _ (by omega) (by omega) (by simp [Oct.be_length]) _).mono ?_; rintro e w3 ⟨rfl, hb⟩; have hz := hb.size; (try simp only [World.size_alloc, World.size_setCell, World.size_drew, size_drewN] at hz); apply own_step (B := w.heap.size) hb; (focus (repeat (first | (with_reducible assumption) | (with_reducible exact own_new _ _ _) | ((with_reducible apply own_new'); focus (first | omega | (simp; done) | (simp; omega))) | (with_reducible apply own_drewN) | (with_reducible apply own_drew) | (with_reducible apply own_alloc) | (with_reducible apply own_setT) | ((with_reducible apply own_set_otherH); focus (first | (simp; done) | (simp; omega)))))); intro hO0; have hk0 := hO0.2.1; have hl0 := hO0.1; have hf0 := hO0.2.2; (try simp only [List.setIfInBounds_toArray, List.set_cons_zero, List.set_cons_succ] at hO0 hk0)))
  have hk := Head.check_ok HC.out
  simp only [] at hk
  obtain ⟨⟨k0, k1⟩, _, ⟨s0, s1⟩, ⟨d0, d1⟩, ⟨m0, m1⟩, ⟨v0, v1⟩, ⟨c0, c1⟩, ⟨q0, q1⟩, ⟨w0, w1'⟩, _⟩ := hk
  have hj : ∀ a b : Int, 0 ≤ a → a ≤ 15 → 0 ≤ b → b ≤ 15 → bits .or .i64 (a * 16) b = 16 * a + b := by
    intro a b h0 h1 h2 h3
    obtain ⟨x, rfl⟩ := Int.eq_ofNat_of_zero_le h0
    obtain ⟨y, rfl⟩ := Int.eq_ofNat_of_zero_le h2
    have := Head.i64_or_join 4 x y (by omega) (by omega) (by omega)
    rw [show ((x * 2 ^ 4 : Nat) : Int) = (x : Int) * 16 by omega] at this
    rw [this]; omega
  have hj1 : ∀ a : Int, 0 ≤ a → a ≤ 9 → bits .or .i64 (a * 2) 1 = 2 * a + 1 := by
    intro a h0 h1
    obtain ⟨x, rfl⟩ := Int.eq_ofNat_of_zero_le h0
    have := Head.i64_or_join 1 x 1 (by omega) (by omega) (by omega)
    rw [show ((x * 2 ^ 1 : Nat) : Int) = (x : Int) * 2 by omega] at this
    rw [show ((1 : Nat) : Int) = 1 from rfl] at this
    rw [this]; omega
  have hor := hj ccval cover v0 v1 c0 c1
  have hor1 := hj1 kind k0 k1
  have hw16 : IntKind.i64.wrap (ccval * 16) = ccval * 16 := IntWalk.i64_in _ (by omega)
  have hw2 : IntKind.i64.wrap (kind * 2) = kind * 2 := IntWalk.i64_in _ (by omega)
  clear hj hj1
  have hcat : ∀ a b : List UInt8, (⟨a.toArray⟩ : ByteArray) ++ (⟨b.toArray⟩ : ByteArray) = ⟨(a ++ b).toArray⟩ := fun a b => ByteArray.ext (by simp)
  have hbe : ∀ u k, (Oct.be u k).length = k := Oct.be_length
  go_wp2_with fail
  go_region_held3 (fun w' => w'.cell? ⟨w.heap.size, 2, none⟩ = some (.int .i64 words) ∧ w'.cell? ⟨w.heap.size, 3, none⟩ = some (.int .i64 ccval) ∧ w'.cell? ⟨w.heap.size, 4, none⟩ = some (.int .i64 cover)) (go_keep) (first | (go_at_call 96; refine (oct_putL _ _ _ (by omega) (by omega) (by simp [Oct.be_length]) _).mono ?_; rintro e w3 ⟨rfl, hb⟩; have hz := hb.size; (try simp only [World.size_alloc, World.size_setCell, World.size_drew, size_drewN] at hz); apply own_step (B := w.heap.size) hb; (focus (repeat (first | (with_reducible assumption) | (with_reducible exact own_new _ _ _) | ((with_reducible apply own_new'); focus (first | omega | (simp; done) | (simp; omega))) | (with_reducible apply own_drewN) | (with_reducible apply own_drew) | (with_reducible apply own_alloc) | (with_reducible apply own_setT) | ((with_reducible apply own_set_otherH); focus (first | (simp; done) | (simp; omega)))))); intro hO0; have hk0 := hO0.2.1; have hl0 := hO0.1; have hf0 := hO0.2.2; (try simp only [List.setIfInBounds_toArray, List.set_cons_zero, List.set_cons_succ] at hO0 hk0)))
  go_wp2_with fail
  refine (oct_putL _ _ _ (by omega) (by omega) (by simp [Oct.be_length]) _).mono ?_; rintro e w3 ⟨rfl, hb⟩; have hz := hb.size; (try simp only [World.size_alloc, World.size_setCell, World.size_drew, size_drewN] at hz); apply own_step (B := w.heap.size) hb; (focus (repeat (first | (with_reducible assumption) | (with_reducible exact own_new _ _ _) | ((with_reducible apply own_new'); focus (first | omega | (simp; done) | (simp; omega))) | (with_reducible apply own_drewN) | (with_reducible apply own_drew) | (with_reducible apply own_alloc) | (with_reducible apply own_setT) | ((with_reducible apply own_set_otherH); focus (first | (simp; done) | (simp; omega)))))); intro hO0; have hk0 := hO0.2.1; have hl0 := hO0.1; have hf0 := hO0.2.2; (try simp only [List.setIfInBounds_toArray, List.set_cons_zero, List.set_cons_succ] at hO0 hk0)
  go_wp2_with fail
  · go_region_held3 (fun w' => w'.cell? ⟨w.heap.size, 6, none⟩ = some (.int .i64 kind) ∧ w'.cell? ⟨w.heap.size, 8, none⟩ = some (.int .i64 seq)) (go_keep) (first | (go_at_call 96; refine (oct_putL _ _ _ (by omega) (by omega) (by simp [Oct.be_length]) _).mono ?_; rintro e w3 ⟨rfl, hb⟩; have hz := hb.size; (try simp only [World.size_alloc, World.size_setCell, World.size_drew, size_drewN] at hz); apply own_step (B := w.heap.size) hb; (focus (repeat (first | (with_reducible assumption) | (with_reducible exact own_new _ _ _) | ((with_reducible apply own_new'); focus (first | omega | (simp; done) | (simp; omega))) | (with_reducible apply own_drewN) | (with_reducible apply own_drew) | (with_reducible apply own_alloc) | (with_reducible apply own_setT) | ((with_reducible apply own_set_otherH); focus (first | (simp; done) | (simp; omega)))))); intro hO0; have hk0 := hO0.2.1; have hl0 := hO0.1; have hf0 := hO0.2.2; (try simp only [List.setIfInBounds_toArray, List.set_cons_zero, List.set_cons_succ] at hO0 hk0)))
    go_wp2_with fail
    clear hbe hcat hor hor1 hw16 hw2
    go_returns
    go_light
    have hlong : long = true := by assumption
    subst hlong
    exact ⟨ret_v (by simp [Head.put, Int.mul_comm]), by (repeat' (first | (with_reducible exact Below.refl _ _) | (with_reducible refine below_alloc ?_ _) | (with_reducible refine Below.drew ?_) | (with_reducible refine below_drewN ?_ _) | (with_reducible refine Below.setCell ?_ ?_ _) | (with_reducible assumption) | (with_reducible refine below_of ?_ (by assumption)) | omega | (simp only [World.size_alloc, World.size_setCell, World.size_drew, size_drewN] at *; omega) | (simp; omega)))⟩
  · go_region_held3 (fun w' => w'.cell? ⟨w.heap.size, 6, none⟩ = some (.int .i64 kind) ∧ w'.cell? ⟨w.heap.size, 8, none⟩ = some (.int .i64 seq)) (go_keep) (first | (go_at_call 96; refine (oct_putL _ _ _ (by omega) (by omega) (by simp [Oct.be_length]) _).mono ?_; rintro e w3 ⟨rfl, hb⟩; have hz := hb.size; (try simp only [World.size_alloc, World.size_setCell, World.size_drew, size_drewN] at hz); apply own_step (B := w.heap.size) hb; (focus (repeat (first | (with_reducible assumption) | (with_reducible exact own_new _ _ _) | ((with_reducible apply own_new'); focus (first | omega | (simp; done) | (simp; omega))) | (with_reducible apply own_drewN) | (with_reducible apply own_drew) | (with_reducible apply own_alloc) | (with_reducible apply own_setT) | ((with_reducible apply own_set_otherH); focus (first | (simp; done) | (simp; omega)))))); intro hO0; have hk0 := hO0.2.1; have hl0 := hO0.1; have hf0 := hO0.2.2; (try simp only [List.setIfInBounds_toArray, List.set_cons_zero, List.set_cons_succ] at hO0 hk0)))
    go_wp2_with fail
    clear hbe hcat hor hor1 hw16 hw2
    go_returns
    go_light
    have hlong : long = false := by assumption
    subst hlong
    exact ⟨ret_v (by simp [Head.put, Int.mul_comm]), by (repeat' (first | (with_reducible exact Below.refl _ _) | (with_reducible refine below_alloc ?_ _) | (with_reducible refine Below.drew ?_) | (with_reducible refine below_drewN ?_ _) | (with_reducible refine Below.setCell ?_ ?_ _) | (with_reducible assumption) | (with_reducible refine below_of ?_ (by assumption)) | omega | (simp only [World.size_alloc, World.size_setCell, World.size_drew, size_drewN] at *; omega) | (simp; omega)))⟩
set_option maxRecDepth 100000 in
theorem head_put_no (h : Head.H) (w : World) (hc : Head.check h ≠ 0) :
    Calls Try.prog 50 #[h.v] w fun e w' => e = .returned (.tuple #[.string ⟨#[]⟩, .int .i64 (Head.check h)]) ∧ Below w.heap.size w w' := by
  have hn : (Head.check h != 0) = true := by simpa using hc
  clear hc
  go_enter Try.func50, Try.ntmps50
  go_wp2_with fail
  refine (head_check h _).mono ?_
  rintro e w1 ⟨rfl, hb⟩; have hz := hb.size; (try simp only [World.size_alloc, World.size_setCell, World.size_drew, size_drewN] at hz); apply own_step (B := w.heap.size) hb; (focus (repeat (first | (with_reducible assumption) | (with_reducible exact own_new _ _ _) | ((with_reducible apply own_new'); focus (first | omega | (simp; done) | (simp; omega))) | (with_reducible apply own_drewN) | (with_reducible apply own_drew) | (with_reducible apply own_alloc) | (with_reducible apply own_setT) | ((with_reducible apply own_set_otherH); focus (first | (simp; done) | (simp; omega)))))); intro hO0; have hk0 := hO0.2.1; have hl0 := hO0.1; have hf0 := hO0.2.2; (try simp only [List.setIfInBounds_toArray, List.set_cons_zero, List.set_cons_succ] at hO0 hk0)
  go_wp2
  go_returns
  exact ⟨rfl, by (repeat' (first | (with_reducible exact Below.refl _ _) | (with_reducible refine below_alloc ?_ _) | (with_reducible refine Below.drew ?_) | (with_reducible refine below_drewN ?_ _) | (with_reducible refine Below.setCell ?_ ?_ _) | (with_reducible assumption) | (with_reducible refine below_of ?_ (by assumption)) | omega | (simp only [World.size_alloc, World.size_setCell, World.size_drew, size_drewN] at *; omega) | (simp; omega)))⟩
end Go.Proofs.Ytodfcalaggfldaa
namespace Go.Proofs.Ytodfcalaggfldaa
set_option linter.unusedVariables false
set_option linter.unusedSimpArgs false
open Go.RowKit

def nu (s : ByteArray) (a b : Nat) : Nat := Oct.val (s.extract a b).data.toList
set_option maxRecDepth 100000 in
set_option maxHeartbeats 4000000 in
theorem head_get_short (s : ByteArray) (w : World) (hs : s.size < 12) : Calls Try.prog 118 #[.string s] w fun e w' => e = .returned (.tuple #[(⟨0, 0, 0, 0, 0, 0, 0, false, 0⟩ : Head.H).v, .string ⟨#[]⟩, .int .i64 1]) ∧ Below w.heap.size w w' := by
  go_enter Try.func118, Try.ntmps118
  go_wp2
  go_returns
  exact ⟨rfl, by (repeat' (first | (with_reducible exact Below.refl _ _) | (with_reducible refine below_alloc ?_ _) | (with_reducible refine Below.drew ?_) | (with_reducible refine below_drewN ?_ _) | (with_reducible refine Below.setCell ?_ ?_ _) | (with_reducible assumption) | (with_reducible refine below_of ?_ (by assumption)) | omega | (simp only [World.size_alloc, World.size_setCell, World.size_drew, size_drewN] at *; omega) | (simp; omega)))⟩
/-- what a text's beginning says -/
def hd (s : ByteArray) (long : Bool) : Head.H := ⟨nu s 0 2, nu s 2 4, nu s 4 5, (nu s 5 6 : Int) / 16, (nu s 5 6 : Int) % 16, nu s 6 8, (nu s 8 9 : Int) / 2 % 16, long, if long = true then nu s 10 16 else nu s 9 12⟩
def hnone : Head.H := ⟨0, 0, 0, 0, 0, 0, 0, false, 0⟩
def get (s : ByteArray) : Head.H × ByteArray × Int :=
  if s.size < 12 then (hnone, ⟨#[]⟩, 1)
  else if nu s 8 9 % 2 = 1 then
    if s.size < 16 then (hnone, ⟨#[]⟩, 1)
    else if nu s 8 9 / 32 = 0 ∧ nu s 9 10 = 0 then
      if Head.check (hd s true) = 0 then (hd s true, s.extract 16 s.size, 0) else (hnone, ⟨#[]⟩, Head.check (hd s true))
    else (hnone, ⟨#[]⟩, 4)
  else if nu s 8 9 / 32 = 0 then
    if Head.check (hd s false) = 0 then (hd s false, s.extract 12 s.size, 0) else (hnone, ⟨#[]⟩, Head.check (hd s false))
  else (hnone, ⟨#[]⟩, 4)
set_option maxRecDepth 100000 in
set_option maxHeartbeats 4000000 in
theorem head_get_long (s : ByteArray) (w : World) (hs : 12 ≤ s.size) (hm : s.size ≤ maxLen) : Calls Try.prog 118 #[.string s] w fun e w' => e = .returned (.tuple #[(get s).1.v, .string (get s).2.1, .int .i64 (get s).2.2]) ∧ Below w.heap.size w w' := by
  have hm' := hm
  unfold maxLen at hm'
  go_enter Try.func118, Try.ntmps118
  go_wp2_with fail
  refine (cut_new s _).mono ?_
  rintro e w1 ⟨rfl, rfl⟩
  go_wp2_with fail
  have hb : ∀ a b, b ≤ a + 1 → nu s a b < 256 := fun a b h => Nat.lt_of_lt_of_le (Oct.val_lt _) (Nat.pow_le_pow_right (by decide) (show (s.extract a b).data.toList.length ≤ 1 by simp; omega))
  have b8 := hb 8 9 (by omega)
  have b9 := hb 9 10 (by omega)
  clear hb
  have hds : ∀ (W : World) (n : Nat) (p : Addr) (v : Value), (W.drewN n).setCell p v = (W.setCell p v).drewN n := fun _ _ _ _ => rfl
  have a15 := Head.and15 (nu s 5 6)
  have a15' := Head.and15 ((nu s 8 9 : Int) / 2)
  have a1 := Head.and1 (nu s 8 9)
  have hor := Head.or_zero (nu s 8 9 / 32) (nu s 9 10) (by omega) (by omega)
  rw [show ((nu s 8 9 / 32 : Nat) : Int) = (nu s 8 9 : Int) / 32 by omega] at hor
  have HOR := Lib.hid hor
  clear hor
  have hn12 : ¬ s.size < 12 := by omega
  refine (cut_numX _ s 0 2 _ hm (by omega) (by omega) (by omega) (by omega) ⟨by simp [go_sem], by simp [go_sem], by simp [go_sem], by simp [go_sem]⟩).mono ?_
  rw [show Oct.val (s.extract ((0 : Int)).toNat ((0 : Int) + 2).toNat).data.toList = nu s 0 2 from rfl]
  rintro e w1 ⟨rfl, m, rfl⟩
  go_wp2_with fail
  refine (cut_numX _ s 2 2 _ hm (by omega) (by omega) (by omega) (by omega) ⟨by simp [go_sem], by simp [go_sem], by simp [go_sem], by simp [go_sem]⟩).mono ?_
  rw [show Oct.val (s.extract ((2 : Int)).toNat ((2 : Int) + 2).toNat).data.toList = nu s 2 4 from rfl]
  rintro e w1 ⟨rfl, m, rfl⟩
  go_wp2_with fail
  refine (cut_numX _ s 4 1 _ hm (by omega) (by omega) (by omega) (by omega) ⟨by simp [go_sem], by simp [go_sem], by simp [go_sem], by simp [go_sem]⟩).mono ?_
  rw [show Oct.val (s.extract ((4 : Int)).toNat ((4 : Int) + 1).toNat).data.toList = nu s 4 5 from rfl]
  rintro e w1 ⟨rfl, m, rfl⟩
  go_wp2_with fail
  refine (cut_numX _ s 5 1 _ hm (by omega) (by omega) (by omega) (by omega) ⟨by simp [go_sem], by simp [go_sem], by simp [go_sem], by simp [go_sem]⟩).mono ?_
  rw [show Oct.val (s.extract ((5 : Int)).toNat ((5 : Int) + 1).toNat).data.toList = nu s 5 6 from rfl]
  rintro e w1 ⟨rfl, m, rfl⟩
  go_wp2_with fail
  refine (cut_numX _ s 6 2 _ hm (by omega) (by omega) (by omega) (by omega) ⟨by simp [go_sem], by simp [go_sem], by simp [go_sem], by simp [go_sem]⟩).mono ?_
  rw [show Oct.val (s.extract ((6 : Int)).toNat ((6 : Int) + 2).toNat).data.toList = nu s 6 8 from rfl]
  rintro e w1 ⟨rfl, m, rfl⟩
  go_wp2_with fail
  by_cases hlong : nu s 8 9 % 2 = 1
  · have t1 : ((nu s 8 9 : Int) % 2 == 1) = true := by simp; omega
    by_cases h16 : s.size < 16
    · have hg : get s = (hnone, ⟨#[]⟩, 1) := by simp only [get, if_neg hn12, if_pos hlong, if_pos h16]
      have HG := Lib.hid hg
      clear hg hlong
      refine (cut_numX _ s 8 1 _ hm (by omega) (by omega) (by omega) (by omega) ⟨by simp [go_sem], by simp [go_sem], by simp [go_sem], by simp [go_sem]⟩).mono ?_
      rw [show Oct.val (s.extract ((8 : Int)).toNat ((8 : Int) + 1).toNat).data.toList = nu s 8 9 from rfl]
      rintro e w1 ⟨rfl, m, rfl⟩
      go_wp2_with fail
      go_returns
      exact ⟨ret_v (by rw [HG.out]; rfl), by (repeat' (first | (with_reducible exact Below.refl _ _) | (with_reducible refine below_alloc ?_ _) | (with_reducible refine Below.drew ?_) | (with_reducible refine below_drewN ?_ _) | (with_reducible refine Below.setCell ?_ ?_ _) | (with_reducible assumption) | (with_reducible refine below_of ?_ (by assumption)) | omega | (simp only [World.size_alloc, World.size_setCell, World.size_drew, size_drewN] at *; omega) | (simp; omega)))⟩
    · have h16' : (16 : Int) ≤ s.size := by omega
      by_cases hsp : nu s 8 9 / 32 = 0 ∧ nu s 9 10 = 0
      · have hor : (bits .or .i64 ((nu s 8 9 : Int) / 32) (nu s 9 10 : Int) != 0) = false := by rw [HOR.out]; simp [hsp.1, hsp.2]
        have hg : get s = if Head.check (hd s true) = 0 then (hd s true, s.extract 16 s.size, 0) else (hnone, ⟨#[]⟩, Head.check (hd s true)) := by simp only [get, if_neg hn12, if_pos hlong, if_neg h16, if_pos hsp]
        have HG := Lib.hid hg
        clear hg hlong hsp
        refine (cut_numX _ s 8 1 _ hm (by omega) (by omega) (by omega) (by omega) ⟨by simp [go_sem], by simp [go_sem], by simp [go_sem], by simp [go_sem]⟩).mono ?_
        rw [show Oct.val (s.extract ((8 : Int)).toNat ((8 : Int) + 1).toNat).data.toList = nu s 8 9 from rfl]
        rintro e w1 ⟨rfl, m, rfl⟩
        go_wp2_with fail
        refine (cut_numX _ s 9 1 _ hm (by omega) (by omega) (by omega) (by omega) ⟨by simp [go_sem], by simp [go_sem], by simp [go_sem], by simp [go_sem]⟩).mono ?_
        rw [show Oct.val (s.extract ((9 : Int)).toNat ((9 : Int) + 1).toNat).data.toList = nu s 9 10 from rfl]
        rintro e w1 ⟨rfl, m, rfl⟩
        go_wp2_with fail
        refine (head_pick _ _ _ _).mono ?_
        rw [if_pos rfl]
        rintro e w1 ⟨rfl, rfl⟩
        go_wp2_with fail
        refine (cut_numX _ s 10 6 _ hm (by omega) (by omega) (by omega) (by omega) ⟨by simp [go_sem], by simp [go_sem], by simp [go_sem], by simp [go_sem]⟩).mono ?_
        rw [show Oct.val (s.extract ((10 : Int)).toNat ((10 : Int) + 6).toNat).data.toList = nu s 10 16 from rfl]
        rintro e w1 ⟨rfl, m, rfl⟩
        go_wp2_with fail
        by_cases hc : Head.check (hd s true) = 0
        · have HC := Lib.hid hc
          clear hc
          refine (head_check (hd s true) _).mono ?_
          rw [HC.out]
          rintro e w1 ⟨rfl, hb⟩; have hz := hb.size; (try simp only [World.size_alloc, World.size_setCell, World.size_drew, size_drewN] at hz); apply own_step (B := w.heap.size) hb; (focus (repeat (first | (with_reducible assumption) | (with_reducible exact own_new _ _ _) | ((with_reducible apply own_new'); focus (first | omega | (simp; done) | (simp; omega))) | (with_reducible apply own_drewN) | (with_reducible apply own_drew) | (with_reducible apply own_alloc) | (with_reducible apply own_setT) | ((with_reducible apply own_set_otherH); focus (first | (simp; done) | (simp; omega)))))); intro hO0; have hk0 := hO0.2.1; have hl0 := hO0.1; have hf0 := hO0.2.2; (try simp only [List.setIfInBounds_toArray, List.set_cons_zero, List.set_cons_succ] at hO0 hk0); apply own_step (B := w.heap.size + 1) hb; (focus (repeat (first | (with_reducible assumption) | (with_reducible exact own_new _ _ _) | ((with_reducible apply own_new'); focus (first | omega | (simp; done) | (simp; omega))) | (with_reducible apply own_drewN) | (with_reducible apply own_drew) | (with_reducible apply own_alloc) | (with_reducible apply own_setT) | ((with_reducible apply own_set_otherH); focus (first | (simp; done) | (simp; omega)))))); intro hO1; have hk1 := hO1.2.1; have hl1 := hO1.1; have hf1 := hO1.2.2; (try simp only [List.setIfInBounds_toArray, List.set_cons_zero, List.set_cons_succ] at hO1 hk1); apply own_step (B := w.heap.size + 1 + 1) hb; (focus (repeat (first | (with_reducible assumption) | (with_reducible exact own_new _ _ _) | ((with_reducible apply own_new'); focus (first | omega | (simp; done) | (simp; omega))) | (with_reducible apply own_drewN) | (with_reducible apply own_drew) | (with_reducible apply own_alloc) | (with_reducible apply own_setT) | ((with_reducible apply own_set_otherH); focus (first | (simp; done) | (simp; omega)))))); intro hO2; have hk2 := hO2.2.1; have hl2 := hO2.1; have hf2 := hO2.2.2; (try simp only [List.setIfInBounds_toArray, List.set_cons_zero, List.set_cons_succ] at hO2 hk2); apply own_step (B := w.heap.size + 1 + 1 + 1) hb; (focus (repeat (first | (with_reducible assumption) | (with_reducible exact own_new _ _ _) | ((with_reducible apply own_new'); focus (first | omega | (simp; done) | (simp; omega))) | (with_reducible apply own_drewN) | (with_reducible apply own_drew) | (with_reducible apply own_alloc) | (with_reducible apply own_setT) | ((with_reducible apply own_set_otherH); focus (first | (simp; done) | (simp; omega)))))); intro hO3; have hk3 := hO3.2.1; have hl3 := hO3.1; have hf3 := hO3.2.2; (try simp only [List.setIfInBounds_toArray, List.set_cons_zero, List.set_cons_succ] at hO3 hk3)
          go_wp2_with fail
          go_region_with (first | (go_at_call 89; refine (cut_restX _ s 16 _ hm (by omega) (by omega) ⟨by simp [hk2], by simp [hk2], by simp [hk2], by simp [hf2]⟩).mono ?_; rintro e w1 ⟨rfl, m, rfl⟩))
          all_goals (go_wp2; ((try simp only [Exit.inBlock, Exit.then]); refine bodyPost_ret (by simp [results, Try.results118, go_sem, hk0, hk3]; try rfl) rfl ?_); go_light; exact ⟨ret_v (by rw [HG.out, if_pos HC.out]; rfl), by (repeat' (first | (with_reducible exact Below.refl _ _) | (with_reducible refine below_alloc ?_ _) | (with_reducible refine Below.drew ?_) | (with_reducible refine below_drewN ?_ _) | (with_reducible refine Below.setCell ?_ ?_ _) | (with_reducible assumption) | (with_reducible refine below_of ?_ (by assumption)) | omega | (simp only [World.size_alloc, World.size_setCell, World.size_drew, size_drewN] at *; omega) | (simp; omega)))⟩)
        · have hcn : (Head.check (hd s true) != 0) = true := by simpa using hc
          have HC := Lib.hid hc
          clear hc
          refine (head_check (hd s true) _).mono ?_
          rintro e w1 ⟨rfl, hb⟩; have hz := hb.size; (try simp only [World.size_alloc, World.size_setCell, World.size_drew, size_drewN] at hz); apply own_step (B := w.heap.size) hb; (focus (repeat (first | (with_reducible assumption) | (with_reducible exact own_new _ _ _) | ((with_reducible apply own_new'); focus (first | omega | (simp; done) | (simp; omega))) | (with_reducible apply own_drewN) | (with_reducible apply own_drew) | (with_reducible apply own_alloc) | (with_reducible apply own_setT) | ((with_reducible apply own_set_otherH); focus (first | (simp; done) | (simp; omega)))))); intro hO0; have hk0 := hO0.2.1; have hl0 := hO0.1; have hf0 := hO0.2.2; (try simp only [List.setIfInBounds_toArray, List.set_cons_zero, List.set_cons_succ] at hO0 hk0); apply own_step (B := w.heap.size + 1) hb; (focus (repeat (first | (with_reducible assumption) | (with_reducible exact own_new _ _ _) | ((with_reducible apply own_new'); focus (first | omega | (simp; done) | (simp; omega))) | (with_reducible apply own_drewN) | (with_reducible apply own_drew) | (with_reducible apply own_alloc) | (with_reducible apply own_setT) | ((with_reducible apply own_set_otherH); focus (first | (simp; done) | (simp; omega)))))); intro hO1; have hk1 := hO1.2.1; have hl1 := hO1.1; have hf1 := hO1.2.2; (try simp only [List.setIfInBounds_toArray, List.set_cons_zero, List.set_cons_succ] at hO1 hk1)
          go_wp2_with fail
          ((try simp only [Exit.inBlock, Exit.then]); refine bodyPost_ret (by simp [results, Try.results118, go_sem, hk0, hk1]; try rfl) rfl ?_)
          exact ⟨ret_v (by rw [HG.out, if_neg HC.out]; rfl), by (repeat' (first | (with_reducible exact Below.refl _ _) | (with_reducible refine below_alloc ?_ _) | (with_reducible refine Below.drew ?_) | (with_reducible refine below_drewN ?_ _) | (with_reducible refine Below.setCell ?_ ?_ _) | (with_reducible assumption) | (with_reducible refine below_of ?_ (by assumption)) | omega | (simp only [World.size_alloc, World.size_setCell, World.size_drew, size_drewN] at *; omega) | (simp; omega)))⟩
      · have hor : (bits .or .i64 ((nu s 8 9 : Int) / 32) (nu s 9 10 : Int) != 0) = true := by
          rw [HOR.out]; simp only [Bool.not_eq_true', Bool.and_eq_false_iff, beq_eq_false_iff_ne]; omega
        have hg : get s = (hnone, ⟨#[]⟩, 4) := by simp only [get, if_neg hn12, if_pos hlong, if_neg h16, if_neg hsp]
        have HG := Lib.hid hg
        clear hg hlong hsp
        refine (cut_numX _ s 8 1 _ hm (by omega) (by omega) (by omega) (by omega) ⟨by simp [go_sem], by simp [go_sem], by simp [go_sem], by simp [go_sem]⟩).mono ?_
        rw [show Oct.val (s.extract ((8 : Int)).toNat ((8 : Int) + 1).toNat).data.toList = nu s 8 9 from rfl]
        rintro e w1 ⟨rfl, m, rfl⟩
        go_wp2_with fail
        refine (cut_numX _ s 9 1 _ hm (by omega) (by omega) (by omega) (by omega) ⟨by simp [go_sem], by simp [go_sem], by simp [go_sem], by simp [go_sem]⟩).mono ?_
        rw [show Oct.val (s.extract ((9 : Int)).toNat ((9 : Int) + 1).toNat).data.toList = nu s 9 10 from rfl]
        rintro e w1 ⟨rfl, m, rfl⟩
        go_wp2_with fail
        go_returns
        exact ⟨ret_v (by rw [HG.out]; rfl), by (repeat' (first | (with_reducible exact Below.refl _ _) | (with_reducible refine below_alloc ?_ _) | (with_reducible refine Below.drew ?_) | (with_reducible refine below_drewN ?_ _) | (with_reducible refine Below.setCell ?_ ?_ _) | (with_reducible assumption) | (with_reducible refine below_of ?_ (by assumption)) | omega | (simp only [World.size_alloc, World.size_setCell, World.size_drew, size_drewN] at *; omega) | (simp; omega)))⟩
  · have t1 : ((nu s 8 9 : Int) % 2 == 1) = false := by simp; omega
    by_cases hsp : nu s 8 9 / 32 = 0
    · have h32 : ((nu s 8 9 : Int) / 32 != 0) = false := by simp; omega
      have hg : get s = if Head.check (hd s false) = 0 then (hd s false, s.extract 12 s.size, 0) else (hnone, ⟨#[]⟩, Head.check (hd s false)) := by simp only [get, if_neg hn12, if_neg hlong, if_pos hsp]
      have HG := Lib.hid hg
      clear hg hlong hsp
      refine (cut_numX _ s 8 1 _ hm (by omega) (by omega) (by omega) (by omega) ⟨by simp [go_sem], by simp [go_sem], by simp [go_sem], by simp [go_sem]⟩).mono ?_
      rw [show Oct.val (s.extract ((8 : Int)).toNat ((8 : Int) + 1).toNat).data.toList = nu s 8 9 from rfl]
      rintro e w1 ⟨rfl, m, rfl⟩
      go_wp2_with fail
      refine (head_pick _ _ _ _).mono ?_
      rw [if_neg Bool.false_ne_true]
      rintro e w1 ⟨rfl, rfl⟩
      go_wp2_with fail
      refine (cut_numX _ s 9 3 _ hm (by omega) (by omega) (by omega) (by omega) ⟨by simp [go_sem], by simp [go_sem], by simp [go_sem], by simp [go_sem]⟩).mono ?_
      rw [show Oct.val (s.extract ((9 : Int)).toNat ((9 : Int) + 3).toNat).data.toList = nu s 9 12 from rfl]
      rintro e w1 ⟨rfl, m, rfl⟩
      go_wp2_with fail
      by_cases hc : Head.check (hd s false) = 0
      · have HC := Lib.hid hc
        clear hc
        refine (head_check (hd s false) _).mono ?_
        rw [HC.out]
        rintro e w1 ⟨rfl, hb⟩; have hz := hb.size; (try simp only [World.size_alloc, World.size_setCell, World.size_drew, size_drewN] at hz); apply own_step (B := w.heap.size) hb; (focus (repeat (first | (with_reducible assumption) | (with_reducible exact own_new _ _ _) | ((with_reducible apply own_new'); focus (first | omega | (simp; done) | (simp; omega))) | (with_reducible apply own_drewN) | (with_reducible apply own_drew) | (with_reducible apply own_alloc) | (with_reducible apply own_setT) | ((with_reducible apply own_set_otherH); focus (first | (simp; done) | (simp; omega)))))); intro hO0; have hk0 := hO0.2.1; have hl0 := hO0.1; have hf0 := hO0.2.2; (try simp only [List.setIfInBounds_toArray, List.set_cons_zero, List.set_cons_succ] at hO0 hk0); apply own_step (B := w.heap.size + 1) hb; (focus (repeat (first | (with_reducible assumption) | (with_reducible exact own_new _ _ _) | ((with_reducible apply own_new'); focus (first | omega | (simp; done) | (simp; omega))) | (with_reducible apply own_drewN) | (with_reducible apply own_drew) | (with_reducible apply own_alloc) | (with_reducible apply own_setT) | ((with_reducible apply own_set_otherH); focus (first | (simp; done) | (simp; omega)))))); intro hO1; have hk1 := hO1.2.1; have hl1 := hO1.1; have hf1 := hO1.2.2; (try simp only [List.setIfInBounds_toArray, List.set_cons_zero, List.set_cons_succ] at hO1 hk1); apply own_step (B := w.heap.size + 1 + 1) hb; (focus (repeat (first | (with_reducible assumption) | (with_reducible exact own_new _ _ _) | ((with_reducible apply own_new'); focus (first | omega | (simp; done) | (simp; omega))) | (with_reducible apply own_drewN) | (with_reducible apply own_drew) | (with_reducible apply own_alloc) | (with_reducible apply own_setT) | ((with_reducible apply own_set_otherH); focus (first | (simp; done) | (simp; omega)))))); intro hO2; have hk2 := hO2.2.1; have hl2 := hO2.1; have hf2 := hO2.2.2; (try simp only [List.setIfInBounds_toArray, List.set_cons_zero, List.set_cons_succ] at hO2 hk2); apply own_step (B := w.heap.size + 1 + 1 + 1) hb; (focus (repeat (first | (with_reducible assumption) | (with_reducible exact own_new _ _ _) | ((with_reducible apply own_new'); focus (first | omega | (simp; done) | (simp; omega))) | (with_reducible apply own_drewN) | (with_reducible apply own_drew) | (with_reducible apply own_alloc) | (with_reducible apply own_setT) | ((with_reducible apply own_set_otherH); focus (first | (simp; done) | (simp; omega)))))); intro hO3; have hk3 := hO3.2.1; have hl3 := hO3.1; have hf3 := hO3.2.2; (try simp only [List.setIfInBounds_toArray, List.set_cons_zero, List.set_cons_succ] at hO3 hk3)
        go_wp2_with fail
        go_region_with (first | (go_at_call 89; refine (cut_restX _ s 12 _ hm (by omega) (by omega) ⟨by simp [hk2], by simp [hk2], by simp [hk2], by simp [hf2]⟩).mono ?_; rintro e w1 ⟨rfl, m, rfl⟩))
        all_goals (go_wp2; ((try simp only [Exit.inBlock, Exit.then]); refine bodyPost_ret (by simp [results, Try.results118, go_sem, hk0, hk3]; try rfl) rfl ?_); go_light; exact ⟨ret_v (by rw [HG.out, if_pos HC.out]; rfl), by (repeat' (first | (with_reducible exact Below.refl _ _) | (with_reducible refine below_alloc ?_ _) | (with_reducible refine Below.drew ?_) | (with_reducible refine below_drewN ?_ _) | (with_reducible refine Below.setCell ?_ ?_ _) | (with_reducible assumption) | (with_reducible refine below_of ?_ (by assumption)) | omega | (simp only [World.size_alloc, World.size_setCell, World.size_drew, size_drewN] at *; omega) | (simp; omega)))⟩)
      · have hcn : (Head.check (hd s false) != 0) = true := by simpa using hc
        have HC := Lib.hid hc
        clear hc
        refine (head_check (hd s false) _).mono ?_
        rintro e w1 ⟨rfl, hb⟩; have hz := hb.size; (try simp only [World.size_alloc, World.size_setCell, World.size_drew, size_drewN] at hz); apply own_step (B := w.heap.size) hb; (focus (repeat (first | (with_reducible assumption) | (with_reducible exact own_new _ _ _) | ((with_reducible apply own_new'); focus (first | omega | (simp; done) | (simp; omega))) | (with_reducible apply own_drewN) | (with_reducible apply own_drew) | (with_reducible apply own_alloc) | (with_reducible apply own_setT) | ((with_reducible apply own_set_otherH); focus (first | (simp; done) | (simp; omega)))))); intro hO0; have hk0 := hO0.2.1; have hl0 := hO0.1; have hf0 := hO0.2.2; (try simp only [List.setIfInBounds_toArray, List.set_cons_zero, List.set_cons_succ] at hO0 hk0); apply own_step (B := w.heap.size + 1) hb; (focus (repeat (first | (with_reducible assumption) | (with_reducible exact own_new _ _ _) | ((with_reducible apply own_new'); focus (first | omega | (simp; done) | (simp; omega))) | (with_reducible apply own_drewN) | (with_reducible apply own_drew) | (with_reducible apply own_alloc) | (with_reducible apply own_setT) | ((with_reducible apply own_set_otherH); focus (first | (simp; done) | (simp; omega)))))); intro hO1; have hk1 := hO1.2.1; have hl1 := hO1.1; have hf1 := hO1.2.2; (try simp only [List.setIfInBounds_toArray, List.set_cons_zero, List.set_cons_succ] at hO1 hk1)
        go_wp2_with fail
        ((try simp only [Exit.inBlock, Exit.then]); refine bodyPost_ret (by simp [results, Try.results118, go_sem, hk0, hk1]; try rfl) rfl ?_)
        exact ⟨ret_v (by rw [HG.out, if_neg HC.out]; rfl), by (repeat' (first | (with_reducible exact Below.refl _ _) | (with_reducible refine below_alloc ?_ _) | (with_reducible refine Below.drew ?_) | (with_reducible refine below_drewN ?_ _) | (with_reducible refine Below.setCell ?_ ?_ _) | (with_reducible assumption) | (with_reducible refine below_of ?_ (by assumption)) | omega | (simp only [World.size_alloc, World.size_setCell, World.size_drew, size_drewN] at *; omega) | (simp; omega)))⟩
    · have h32 : ((nu s 8 9 : Int) / 32 != 0) = true := by simp; omega
      have hg : get s = (hnone, ⟨#[]⟩, 4) := by simp only [get, if_neg hn12, if_neg hlong, if_neg hsp]
      have HG := Lib.hid hg
      clear hg hlong hsp
      refine (cut_numX _ s 8 1 _ hm (by omega) (by omega) (by omega) (by omega) ⟨by simp [go_sem], by simp [go_sem], by simp [go_sem], by simp [go_sem]⟩).mono ?_
      rw [show Oct.val (s.extract ((8 : Int)).toNat ((8 : Int) + 1).toNat).data.toList = nu s 8 9 from rfl]
      rintro e w1 ⟨rfl, m, rfl⟩
      go_wp2_with fail
      go_returns
      exact ⟨ret_v (by rw [HG.out]; rfl), by (repeat' (first | (with_reducible exact Below.refl _ _) | (with_reducible refine below_alloc ?_ _) | (with_reducible refine Below.drew ?_) | (with_reducible refine below_drewN ?_ _) | (with_reducible refine Below.setCell ?_ ?_ _) | (with_reducible assumption) | (with_reducible refine below_of ?_ (by assumption)) | omega | (simp only [World.size_alloc, World.size_setCell, World.size_drew, size_drewN] at *; omega) | (simp; omega)))⟩
end Go.Proofs.Ytodfcalaggfldaa
