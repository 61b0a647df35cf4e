/- Bytes that are read from the front on (octets.Cut): contracts of its methods. Conditions: the reader is one of the call's own, it has read no more than there is. -/
import Derived.Test.YtjjnolpkifhbnaaGreatOctA
import Derived.Test.YtjjnolpkifhbnaaGreatHdA
namespace Go.Proofs.YtjjnolpkifhbnaaGreat
set_option linter.unusedVariables false
set_option linter.unusedSimpArgs false
open Go.RowKit

/-! only one block may have been written -/
theorem grow_refl (w : World) (r : Option Nat) : w.grownBy w r := ⟨rfl, rfl, rfl, Nat.le_refl _, fun _ _ _ => rfl⟩
theorem grow_trans {a b c : World} {r : Option Nat} (h : a.grownBy b r) (k : b.grownBy c r) : a.grownBy c r :=
  ⟨k.os.trans h.os, k.tape.trans h.tape, k.output.trans h.output, Nat.le_trans h.size k.size, fun i hi hne => (k.block i (Nat.lt_of_lt_of_le hi h.size) hne).trans (h.block i hi hne)⟩
theorem grow_drewN {a w : World} {r : Option Nat} (h : a.grownBy w r) (n : Nat) : a.grownBy (w.drewN n) r := ⟨h.os, h.tape, h.output, h.size, h.block⟩
theorem grow_drew {a w : World} {r : Option Nat} (h : a.grownBy w r) : a.grownBy w.drew r := ⟨h.os, h.tape, h.output, h.size, h.block⟩
theorem grow_alloc {a w : World} {r : Option Nat} (h : a.grownBy w r) (o : Obj) : a.grownBy (w.alloc o) r :=
  grow_trans h (World.grownBy_alloc w o r)
theorem grow_set {a w : World} {B : Nat} (h : a.grownBy w (some B)) (i : Nat) (v : Value) : a.grownBy (w.setCell ⟨B, i, none⟩ v) (some B) :=
  grow_trans h ⟨rfl, rfl, rfl, by simp, fun k _ hne => Below.heap_setCell _ _ _ _ (fun e => hne (by rw [e]))⟩
theorem grow_below {a w w' : World} {r : Option Nat} (h : a.grownBy w r) (hb : Below w.heap.size w w') : a.grownBy w' r :=
  grow_trans h ⟨hb.os, hb.tape, hb.output, hb.size, fun k hk _ => hb.block k hk⟩
theorem below_grow {base : Nat} {a w w' : World} {B : Nat} (h : Below base a w) (hg : w.grownBy w' (some B)) (hB : base ≤ B) (hs : base ≤ w.heap.size) : Below base a w' :=
  h.trans ⟨hg.os, hg.tape, hg.output, hg.size, fun k hk => hg.block k (by omega) (fun e => by injection e with e; omega)⟩
theorem own_grow {W w1 : World} {B B' : Nat} {cs : Array Value} (h : Own W B' cs) (hne : B' ≠ B) (hg : W.grownBy w1 (some B)) : Own w1 B' cs :=
  ⟨Nat.lt_of_lt_of_le h.1 hg.size, fun j => (World.cell?_of_block (a := ⟨B', j, none⟩) (hg.block B' h.1 (fun e => hne (by injection e)))).trans (h.2.1 j),
    fun j => (World.frozen?_of_block (a := ⟨B', j, none⟩) (hg.block B' h.1 (fun e => hne (by injection e)))).trans (h.2.2 j)⟩
theorem cell_grow {W w1 : World} {B : Nat} {p : Addr} {v : Value} (hg : W.grownBy w1 (some B)) (hne : p.block ≠ B) (h : W.cell? p = some v) : w1.cell? p = some v :=
  (World.cell?_of_block (hg.block p.block (lt_of_cell h) (fun e => hne (by injection e)))).trans h

/-- what is wrong behind an asking for n bytes -/
def cutFell (size at_ : Nat) (fell n : Int) (wrong : Bool) : Int := if fell ≠ 0 then fell else if wrong = true then 3 else if (size : Int) - at_ < n then 1 else 0
theorem cut_take (B : Nat) (s : ByteArray) (at_ : Nat) (fell n : Int) (wrong : Bool) (w : World) (hs : s.size ≤ maxLen) (ha : at_ ≤ s.size) (hO : Own w B #[.string s, .int .i64 at_, .int .i64 fell]) :
    Calls Tryz.prog 79 #[.pointer (some ⟨B, 0, none⟩), .int .i64 n, .bool wrong] w fun e w' => e = .returned (.bool (decide (cutFell s.size at_ fell n wrong = 0))) ∧
      Own w' B #[.string s, .int .i64 at_, .int .i64 (cutFell s.size at_ fell n wrong)] ∧ w.grownBy w' (some B) := by
  unfold maxLen at hs
  have hk := hO.2.1
  have hl := hO.1
  have hf := hO.2.2
  unfold cutFell
  by_cases h0 : fell = 0
  · subst h0
    cases wrong
    · by_cases hn : (s.size : Int) - at_ < n
      · simp only [ne_eq, not_true_eq_false, if_false, Bool.false_eq_true, if_pos hn]
        go_enter Tryz.func79, Tryz.ntmps79
        go_wp2
        go_quiet (fail)
        go_wp2
        go_ret
        exact ⟨rfl, by ((with_reducible apply own_conv); (focus (repeat (first | (with_reducible assumption) | (with_reducible exact own_new _ _ _) | ((with_reducible apply own_new'); focus (first | omega | (simp; done) | (simp; omega))) | (with_reducible apply own_drewN) | (with_reducible apply own_drew) | (with_reducible apply own_alloc) | (with_reducible apply own_setT) | ((with_reducible apply own_set_otherH); focus (first | (simp; done) | (simp; omega)))))); simp), by (repeat (first | (with_reducible exact grow_refl _ _) | (with_reducible refine grow_drewN ?_ _) | (with_reducible refine grow_drew ?_) | (with_reducible refine grow_alloc ?_ _) | (with_reducible refine grow_set ?_ _ _) | (with_reducible assumption)))⟩
      · simp only [ne_eq, not_true_eq_false, if_false, Bool.false_eq_true, if_neg hn]
        go_enter Tryz.func79, Tryz.ntmps79
        go_wp2
        go_quiet (fail)
        go_wp2
        go_ret
        exact ⟨rfl, own_drewN hO _, by (repeat (first | (with_reducible exact grow_refl _ _) | (with_reducible refine grow_drewN ?_ _) | (with_reducible refine grow_drew ?_) | (with_reducible refine grow_alloc ?_ _) | (with_reducible refine grow_set ?_ _ _) | (with_reducible assumption)))⟩
    · simp only [ne_eq, not_true_eq_false, if_false, if_true]
      go_enter Tryz.func79, Tryz.ntmps79
      go_wp2
      go_ret
      exact ⟨rfl, by ((with_reducible apply own_conv); (focus (repeat (first | (with_reducible assumption) | (with_reducible exact own_new _ _ _) | ((with_reducible apply own_new'); focus (first | omega | (simp; done) | (simp; omega))) | (with_reducible apply own_drewN) | (with_reducible apply own_drew) | (with_reducible apply own_alloc) | (with_reducible apply own_setT) | ((with_reducible apply own_set_otherH); focus (first | (simp; done) | (simp; omega)))))); simp), by (repeat (first | (with_reducible exact grow_refl _ _) | (with_reducible refine grow_drewN ?_ _) | (with_reducible refine grow_drew ?_) | (with_reducible refine grow_alloc ?_ _) | (with_reducible refine grow_set ?_ _ _) | (with_reducible assumption)))⟩
  · have hne : (fell != 0) = true := by simpa using h0
    have hd : decide (fell = 0) = false := by simpa using h0
    simp only [ne_eq, h0, not_false_eq_true, if_true, hd]
    go_enter Tryz.func79, Tryz.ntmps79
    go_wp2
    go_ret
    exact ⟨rfl, hO, by (repeat (first | (with_reducible exact grow_refl _ _) | (with_reducible refine grow_drewN ?_ _) | (with_reducible refine grow_drew ?_) | (with_reducible refine grow_alloc ?_ _) | (with_reducible refine grow_set ?_ _ _) | (with_reducible assumption)))⟩
/-- a reader, all is right so far: n bytes are read -/
theorem cut_bytes (B : Nat) (s : ByteArray) (at_ n : Nat) (w : World) (hs : s.size ≤ maxLen) (ha : at_ + n ≤ s.size) (hO : Own w B #[.string s, .int .i64 at_, .int .i64 0]) :
    Calls Tryz.prog 81 #[.pointer (some ⟨B, 0, none⟩), .int .i64 n] w fun e w' => e = .returned (.string (s.extract at_ (at_ + n))) ∧
      Own w' B #[.string s, .int .i64 (at_ + n : Nat), .int .i64 0] ∧ w.grownBy w' (some B) := by
  have ht := cut_take B s at_ 0 n false w hs (by omega) hO
  rw [show cutFell s.size at_ 0 n false = 0 by unfold cutFell; simp; omega] at ht
  have HT := Lib.hid ht
  clear ht
  unfold maxLen at hs
  have hneg : decide ((n : Int) < 0) = false := by simp
  have h1 : (at_ : Int) + n ≤ (s.size : Int) := by omega
  go_enter Tryz.func81, Tryz.ntmps81
  go_wp2_with fail
  refine HT.out.mono ?_
  rintro e w1 ⟨rfl, hO1, hg1⟩
  have hk := hO1.2.1
  have hl := hO1.1
  have hf := hO1.2.2
  go_wp2
  go_quiet (fail)
  go_wp2
  go_ret
  exact ⟨rfl, by ((with_reducible apply own_conv); (focus (repeat (first | (with_reducible assumption) | (with_reducible exact own_new _ _ _) | ((with_reducible apply own_new'); focus (first | omega | (simp; done) | (simp; omega))) | (with_reducible apply own_drewN) | (with_reducible apply own_drew) | (with_reducible apply own_alloc) | (with_reducible apply own_setT) | ((with_reducible apply own_set_otherH); focus (first | (simp; done) | (simp; omega)))))); simp), by have := hg1; (repeat (first | (with_reducible exact grow_refl _ _) | (with_reducible refine grow_drewN ?_ _) | (with_reducible refine grow_drew ?_) | (with_reducible refine grow_alloc ?_ _) | (with_reducible refine grow_set ?_ _ _) | (with_reducible assumption)))⟩
theorem cut_left (B : Nat) (s : ByteArray) (at_ : Nat) (fell : Int) (w : World) (hs : s.size ≤ maxLen) (ha : at_ ≤ s.size) (hO : Own w B #[.string s, .int .i64 at_, .int .i64 fell]) :
    Calls Tryz.prog 82 #[.pointer (some ⟨B, 0, none⟩)] w fun e w' => e = .returned (.int .i64 ((s.size - at_ : Nat) : Int)) ∧ ∃ n, w.drewN n = w' := by
  unfold maxLen at hs
  have hk := hO.2.1
  have e0 : ((s.size - at_ : Nat) : Int) = (s.size : Int) - at_ := by omega
  rw [e0]
  clear e0
  go_enter Tryz.func82, Tryz.ntmps82
  go_wp2
  go_quiet (fail)
  go_wp2
  go_ret
  exact ⟨rfl, _, rfl⟩
theorem cut_rest (B : Nat) (s : ByteArray) (at_ : Nat) (w : World) (hs : s.size ≤ maxLen) (ha : at_ ≤ s.size) (hO : Own w B #[.string s, .int .i64 at_, .int .i64 0]) :
    Calls Tryz.prog 59 #[.pointer (some ⟨B, 0, none⟩)] w fun e w' => e = .returned (.string (s.extract at_ s.size)) ∧
      Own w' B #[.string s, .int .i64 s.size, .int .i64 0] ∧ w.grownBy w' (some B) := by
  go_enter Tryz.func59, Tryz.ntmps59
  go_wp2_with fail
  refine (cut_left B s at_ 0 w hs ha hO).mono ?_
  rintro e w1 ⟨rfl, nd, rfl⟩
  go_wp2_with fail
  refine (cut_bytes B s at_ (s.size - at_) _ hs (by omega) (own_drewN hO _)).mono ?_
  rw [show at_ + (s.size - at_) = s.size by omega]
  rintro e w2 ⟨rfl, hO2, hg⟩
  go_wp2
  go_ret
  exact ⟨rfl, hO2, grow_trans (grow_drewN (grow_refl _ _) _) hg⟩
theorem cut_num (B : Nat) (s : ByteArray) (at_ n : Nat) (w : World) (hs : s.size ≤ maxLen) (hn : 1 ≤ n) (hn7 : n ≤ 7) (ha : at_ + n ≤ s.size) (hO : Own w B #[.string s, .int .i64 at_, .int .i64 0]) :
    Calls Tryz.prog 58 #[.pointer (some ⟨B, 0, none⟩), .int .i64 n] w fun e w' => e = .returned (.int .i64 (Oct.val (s.extract at_ (at_ + n)).data.toList : Nat)) ∧
      Own w' B #[.string s, .int .i64 (at_ + n : Nat), .int .i64 0] ∧ w.grownBy w' (some B) := by
  have ht := cut_take B s at_ 0 n false w hs (by omega) hO
  rw [show cutFell s.size at_ 0 n false = 0 by unfold cutFell; simp; omega] at ht
  have HT := Lib.hid ht
  clear ht
  have hx : (s.extract at_ (at_ + n)).size ≤ maxLen := by rw [ByteArray.size_extract]; omega
  have hv : Oct.val (s.extract at_ (at_ + n)).data.toList < 72057594037927936 := Oct.val_small (by simp; omega)
  have ho := fun W => oct_of (s.extract at_ (at_ + n)) hx W
  have HO := Lib.hid ho
  clear ho hx
  have h1 : decide ((n : Int) < 1) = false := by simp; omega
  have h2 : decide (7 < (n : Int)) = false := by simp; omega
  go_enter Tryz.func58, Tryz.ntmps58
  go_wp2_with fail
  refine HT.out.mono ?_
  rintro e w1 ⟨rfl, hO1, hg1⟩
  go_wp2_with fail
  refine (cut_bytes B s at_ n _ hs ha hO1).mono ?_
  rintro e w2 ⟨rfl, hO2, hg2⟩
  go_wp2_with fail
  refine (HO.out _).mono ?_
  generalize hgv : Oct.val (s.extract at_ (at_ + n)).data.toList = v at *
  have HG := Lib.hid hgv
  clear hgv
  rw [show wrap64 ((v % 18446744073709551616 : Nat) : Int) = (v : Int) by unfold wrap64; omega]
  rintro e w3 ⟨rfl, rfl⟩
  go_wp2
  go_ret
  exact ⟨ret_i (by rw [HG.out]), hO2, grow_trans hg1 hg2⟩
theorem cut_new (s : ByteArray) (w : World) : Calls Tryz.prog 57 #[.string s] w fun e w' => e = .returned (.pointer (some ⟨w.heap.size, 0, none⟩)) ∧ w' = w.alloc (.cells #[.string s, .int .i64 0, .int .i64 0] 110) := by
  go_enter Tryz.func57, Tryz.ntmps57
  go_wp2
  go_ret
  exact ⟨rfl, rfl⟩
end Go.Proofs.YtjjnolpkifhbnaaGreat
namespace Go.Proofs.YtjjnolpkifhbnaaGreat
set_option linter.unusedVariables false
set_option linter.unusedSimpArgs false
open Go.RowKit

theorem drew_set_drew (w : World) (p : Addr) (v : Value) (a b : Nat) : (w.setCell p v).drewN (a + b) = ((w.drewN a).setCell p v).drewN b := by
  simp [World.drewN, World.setCell, Nat.add_assoc]
/-- block B is a reader of s that has read at_ bytes, and has not failed -/
def Reads (w : World) (B : Nat) (s : ByteArray) (at_ : Int) : Prop :=
  w.cell? ⟨B, 0, none⟩ = some (.string s) ∧ w.cell? ⟨B, 1, none⟩ = some (.int .i64 at_) ∧ w.cell? ⟨B, 2, none⟩ = some (.int .i64 0) ∧ w.frozen? ⟨B, 1, none⟩ = false
theorem cut_takeX (B : Nat) (s : ByteArray) (at_ n : Int) (w : World) (hs : s.size ≤ maxLen) (h0 : 0 ≤ at_) (ha : at_ ≤ s.size) (hn : at_ + n ≤ s.size) (hR : Reads w B s at_) :
    Calls Tryz.prog 79 #[.pointer (some ⟨B, 0, none⟩), .int .i64 n, .bool false] w fun e w' => e = .returned (.bool true) ∧ ∃ m, w.drewN m = w' := by
  unfold maxLen at hs
  obtain ⟨c0, c1, c2, f1⟩ := hR
  have hd : decide ((s.size : Int) - at_ < n) = false := by simp; omega
  go_enter Tryz.func79, Tryz.ntmps79
  go_wp2
  go_quiet (fail)
  go_wp2
  go_ret
  exact ⟨rfl, _, rfl⟩
theorem cut_bytesX (B : Nat) (s : ByteArray) (at_ n : Int) (w : World) (hs : s.size ≤ maxLen) (h0 : 0 ≤ at_) (hn0 : 0 ≤ n) (hn : at_ + n ≤ s.size) (hR : Reads w B s at_) :
    Calls Tryz.prog 81 #[.pointer (some ⟨B, 0, none⟩), .int .i64 n] w fun e w' => e = .returned (.string (s.extract at_.toNat (at_ + n).toNat)) ∧ ∃ m, (w.setCell ⟨B, 1, none⟩ (.int .i64 (at_ + n))).drewN m = w' := by
  have ht := fun n' w' => cut_takeX B s at_ n' w' hs h0
  have HT := Lib.hid ht
  clear ht
  have HR := Lib.hid hR
  unfold maxLen at hs
  obtain ⟨c0, c1, c2, f1⟩ := hR
  have hneg : decide (n < 0) = false := by simp; omega
  have hle : at_ + n ≤ (s.size : Int) := hn
  go_enter Tryz.func81, Tryz.ntmps81
  go_wp2_with fail
  refine (HT.out _ _ (by omega) hn HR.out).mono ?_
  rintro e w1 ⟨rfl, m1, rfl⟩
  go_wp2
  go_quiet (fail)
  go_wp2
  go_ret
  exact ⟨rfl, _, drew_set_drew _ _ _ _ _⟩
theorem reads_drewN {w : World} {B : Nat} {s : ByteArray} {at_ : Int} (h : Reads w B s at_) (n : Nat) : Reads (w.drewN n) B s at_ := h
theorem cut_numX (B : Nat) (s : ByteArray) (at_ n : Int) (w : World) (hs : s.size ≤ maxLen) (h0 : 0 ≤ at_) (hn0 : 1 ≤ n) (hn7 : n ≤ 7) (hn : at_ + n ≤ s.size) (hR : Reads w B s at_) :
    Calls Tryz.prog 58 #[.pointer (some ⟨B, 0, none⟩), .int .i64 n] w fun e w' => e = .returned (.int .i64 (Oct.val (s.extract at_.toNat (at_ + n).toNat).data.toList : Nat)) ∧ ∃ m, (w.setCell ⟨B, 1, none⟩ (.int .i64 (at_ + n))).drewN m = w' := by
  have ht := fun n' w' => cut_takeX B s at_ n' w' hs h0
  have HT := Lib.hid ht
  clear ht
  have hbt := fun w' => cut_bytesX B s at_ n w' hs h0 (by omega) hn
  have HB := Lib.hid hbt
  clear hbt
  have HR := Lib.hid hR
  clear hR
  have hx : (s.extract at_.toNat (at_ + n).toNat).size ≤ maxLen := by rw [ByteArray.size_extract]; omega
  have hv : Oct.val (s.extract at_.toNat (at_ + n).toNat).data.toList < 72057594037927936 := Oct.val_small (by simp; omega)
  have ho := fun W => oct_of (s.extract at_.toNat (at_ + n).toNat) hx W
  have HO := Lib.hid ho
  clear ho hx
  have h1 : decide (n < 1) = false := by simp; omega
  have h2 : decide (7 < n) = false := by simp; omega
  go_enter Tryz.func58, Tryz.ntmps58
  go_wp2_with fail
  refine (HT.out _ _ (by omega) hn HR.out).mono ?_
  rintro e w1 ⟨rfl, m1, rfl⟩
  go_wp2_with fail
  refine (HB.out _ (reads_drewN HR.out _)).mono ?_
  rintro e w2 ⟨rfl, m2, rfl⟩
  go_wp2_with fail
  refine (HO.out _).mono ?_
  generalize hgv : Oct.val (s.extract at_.toNat (at_ + n).toNat).data.toList = v at *
  have HG := Lib.hid hgv
  clear hgv
  rw [show wrap64 ((v % 18446744073709551616 : Nat) : Int) = (v : Int) by unfold wrap64; omega]
  rintro e w3 ⟨rfl, rfl⟩
  go_wp2
  go_ret
  exact ⟨ret_i (by rw [HG.out]), _, drew_set_drew _ _ _ _ _⟩
theorem cut_restX (B : Nat) (s : ByteArray) (at_ : Int) (w : World) (hs : s.size ≤ maxLen) (h0 : 0 ≤ at_) (ha : at_ ≤ s.size) (hR : Reads w B s at_) :
    Calls Tryz.prog 59 #[.pointer (some ⟨B, 0, none⟩)] w fun e w' => e = .returned (.string (s.extract at_.toNat s.size)) ∧ ∃ m, (w.setCell ⟨B, 1, none⟩ (.int .i64 s.size)).drewN m = w' := by
  have hbt := fun w' => cut_bytesX B s at_ (s.size - at_) w' hs h0 (by omega) (by omega)
  rw [show at_ + ((s.size : Int) - at_) = s.size by omega, show ((s.size : Int)).toNat = s.size by omega] at hbt
  have HB := Lib.hid hbt
  clear hbt
  have HR := Lib.hid hR
  unfold maxLen at hs
  obtain ⟨c0, c1, c2, f1⟩ := hR
  have hl : ∀ W : World, W.cell? ⟨B, 0, none⟩ = some (.string s) → W.cell? ⟨B, 1, none⟩ = some (.int .i64 at_) → Calls Tryz.prog 82 #[.pointer (some ⟨B, 0, none⟩)] W fun e w' => e = .returned (.int .i64 (s.size - at_)) ∧ ∃ m, W.drewN m = w' := by
    intro W d0 d1
    clear c0 c1 c2 f1
    go_enter Tryz.func82, Tryz.ntmps82
    go_wp2
    go_quiet (fail)
    go_wp2
    go_ret
    exact ⟨rfl, _, rfl⟩
  have HL := Lib.hid hl
  clear hl
  go_enter Tryz.func59, Tryz.ntmps59
  go_wp2_with fail
  refine (HL.out _ c0 c1).mono ?_
  rintro e w1 ⟨rfl, m1, rfl⟩
  go_wp2_with fail
  refine (HB.out _ (reads_drewN HR.out _)).mono ?_
  rintro e w2 ⟨rfl, m2, rfl⟩
  go_wp2
  go_ret
  exact ⟨rfl, _, drew_set_drew _ _ _ _ _⟩
end Go.Proofs.YtjjnolpkifhbnaaGreat
namespace Go.Proofs.YtjjnolpkifhbnaaGreat
set_option linter.unusedVariables false
set_option linter.unusedSimpArgs false
open Go.RowKit

end Go.Proofs.YtjjnolpkifhbnaaGreat
namespace Go.Proofs.YtjjnolpkifhbnaaGreat
set_option linter.unusedVariables false
set_option linter.unusedSimpArgs false
open Go.RowKit

def nu (s : ByteArray) (a b : Nat) : Nat := Oct.val (s.extract a b).data.toList
/-- what a text's beginning says -/
def hd (s : ByteArray) (long : Bool) : Head.H := ⟨nu s 0 2, nu s 2 4, nu s 4 5, (nu s 5 6 : Int) / 16, (nu s 5 6 : Int) % 16, nu s 6 8, (nu s 8 9 : Int) / 2 % 16, long, if long = true then nu s 10 16 else nu s 9 12⟩
def hnone : Head.H := ⟨0, 0, 0, 0, 0, 0, 0, false, 0⟩
def get (s : ByteArray) : Head.H × ByteArray × Int :=
  if s.size < 12 then (hnone, ⟨#[]⟩, 1)
  else if nu s 8 9 % 2 = 1 then
    if s.size < 16 then (hnone, ⟨#[]⟩, 1)
    else if nu s 8 9 / 32 = 0 ∧ nu s 9 10 = 0 then
      if Head.check (hd s true) = 0 then (hd s true, s.extract 16 s.size, 0) else (hnone, ⟨#[]⟩, Head.check (hd s true))
    else (hnone, ⟨#[]⟩, 4)
  else if nu s 8 9 / 32 = 0 then
    if Head.check (hd s false) = 0 then (hd s false, s.extract 12 s.size, 0) else (hnone, ⟨#[]⟩, Head.check (hd s false))
  else (hnone, ⟨#[]⟩, 4)
end Go.Proofs.YtjjnolpkifhbnaaGreat
