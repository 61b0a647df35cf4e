/- Bytes that are read from the front on (octets.Cut), where all is right: the very world behind each call. -/
import Derived.Test.YtnhfhnphmjhamaaCut
namespace Go.Proofs.Ytnhfhnphmjhamaa
set_option linter.unusedVariables false
set_option linter.unusedSimpArgs false
open Go.RowKit

theorem drew_set_drew (w : World) (p : Addr) (v : Value) (a b : Nat) : (w.setCell p v).drewN (a + b) = ((w.drewN a).setCell p v).drewN b := by
  simp [World.drewN, World.setCell, Nat.add_assoc]
/-- block B is a reader of s that has read at_ bytes, and has not failed -/
def Reads (w : World) (B : Nat) (s : ByteArray) (at_ : Int) : Prop :=
  w.cell? ⟨B, 0, none⟩ = some (.string s) ∧ w.cell? ⟨B, 1, none⟩ = some (.int .i64 at_) ∧ w.cell? ⟨B, 2, none⟩ = some (.int .i64 0) ∧ w.frozen? ⟨B, 1, none⟩ = false
theorem cut_takeX (B : Nat) (s : ByteArray) (at_ n : Int) (w : World) (hs : s.size ≤ maxLen) (h0 : 0 ≤ at_) (ha : at_ ≤ s.size) (hn : at_ + n ≤ s.size) (hR : Reads w B s at_) :
    Calls Try.prog 109 #[.pointer (some ⟨B, 0, none⟩), .int .i64 n, .bool false] w fun e w' => e = .returned (.bool true) ∧ ∃ m, w.drewN m = w' := by
  unfold maxLen at hs
  obtain ⟨c0, c1, c2, f1⟩ := hR
  have hd : decide ((s.size : Int) - at_ < n) = false := by simp; omega
  go_enter Try.func109, Try.ntmps109
  go_wp2
  go_quiet (fail)
  go_wp2
  go_ret
  exact ⟨rfl, _, rfl⟩
theorem cut_bytesX (B : Nat) (s : ByteArray) (at_ n : Int) (w : World) (hs : s.size ≤ maxLen) (h0 : 0 ≤ at_) (hn0 : 0 ≤ n) (hn : at_ + n ≤ s.size) (hR : Reads w B s at_) :
    Calls Try.prog 111 #[.pointer (some ⟨B, 0, none⟩), .int .i64 n] w fun e w' => e = .returned (.string (s.extract at_.toNat (at_ + n).toNat)) ∧ ∃ m, (w.setCell ⟨B, 1, none⟩ (.int .i64 (at_ + n))).drewN m = w' := by
  have ht := fun n' w' => cut_takeX B s at_ n' w' hs h0
  have HT := Lib.hid ht
  clear ht
  have HR := Lib.hid hR
  unfold maxLen at hs
  obtain ⟨c0, c1, c2, f1⟩ := hR
  have hneg : decide (n < 0) = false := by simp; omega
  have hle : at_ + n ≤ (s.size : Int) := hn
  go_enter Try.func111, Try.ntmps111
  go_wp2_with fail
  refine (HT.out _ _ (by omega) hn HR.out).mono ?_
  rintro e w1 ⟨rfl, m1, rfl⟩
  go_wp2
  go_quiet (fail)
  go_wp2
  go_ret
  exact ⟨rfl, _, drew_set_drew _ _ _ _ _⟩
theorem reads_drewN {w : World} {B : Nat} {s : ByteArray} {at_ : Int} (h : Reads w B s at_) (n : Nat) : Reads (w.drewN n) B s at_ := h
theorem cut_numX (B : Nat) (s : ByteArray) (at_ n : Int) (w : World) (hs : s.size ≤ maxLen) (h0 : 0 ≤ at_) (hn0 : 1 ≤ n) (hn7 : n ≤ 7) (hn : at_ + n ≤ s.size) (hR : Reads w B s at_) :
    Calls Try.prog 86 #[.pointer (some ⟨B, 0, none⟩), .int .i64 n] w fun e w' => e = .returned (.int .i64 (Oct.val (s.extract at_.toNat (at_ + n).toNat).data.toList : Nat)) ∧ ∃ m, (w.setCell ⟨B, 1, none⟩ (.int .i64 (at_ + n))).drewN m = w' := by
  have ht := fun n' w' => cut_takeX B s at_ n' w' hs h0
  have HT := Lib.hid ht
  clear ht
  have hbt := fun w' => cut_bytesX B s at_ n w' hs h0 (by omega) hn
  have HB := Lib.hid hbt
  clear hbt
  have HR := Lib.hid hR
  clear hR
  have hx : (s.extract at_.toNat (at_ + n).toNat).size ≤ maxLen := by rw [ByteArray.size_extract]; omega
  have hv : Oct.val (s.extract at_.toNat (at_ + n).toNat).data.toList < 72057594037927936 := Oct.val_small (by simp; omega)
  have ho := fun W => oct_of (s.extract at_.toNat (at_ + n).toNat) hx W
  have HO := Lib.hid ho
  clear ho hx
  have h1 : decide (n < 1) = false := by simp; omega
  have h2 : decide (7 < n) = false := by simp; omega
  go_enter Try.func86, Try.ntmps86
  go_wp2_with fail
  refine (HT.out _ _ (by omega) hn HR.out).mono ?_
  rintro e w1 ⟨rfl, m1, rfl⟩
  go_wp2_with fail
  refine (HB.out _ (reads_drewN HR.out _)).mono ?_
  rintro e w2 ⟨rfl, m2, rfl⟩
  go_wp2_with fail
  refine (HO.out _).mono ?_
  generalize hgv : Oct.val (s.extract at_.toNat (at_ + n).toNat).data.toList = v at *
  have HG := Lib.hid hgv
  clear hgv
  rw [show wrap64 ((v % 18446744073709551616 : Nat) : Int) = (v : Int) by unfold wrap64; omega]
  rintro e w3 ⟨rfl, rfl⟩
  go_wp2
  go_ret
  exact ⟨ret_i (by rw [HG.out]), _, drew_set_drew _ _ _ _ _⟩
theorem cut_restX (B : Nat) (s : ByteArray) (at_ : Int) (w : World) (hs : s.size ≤ maxLen) (h0 : 0 ≤ at_) (ha : at_ ≤ s.size) (hR : Reads w B s at_) :
    Calls Try.prog 87 #[.pointer (some ⟨B, 0, none⟩)] w fun e w' => e = .returned (.string (s.extract at_.toNat s.size)) ∧ ∃ m, (w.setCell ⟨B, 1, none⟩ (.int .i64 s.size)).drewN m = w' := by
  have hbt := fun w' => cut_bytesX B s at_ (s.size - at_) w' hs h0 (by omega) (by omega)
  rw [show at_ + ((s.size : Int) - at_) = s.size by omega, show ((s.size : Int)).toNat = s.size by omega] at hbt
  have HB := Lib.hid hbt
  clear hbt
  have HR := Lib.hid hR
  unfold maxLen at hs
  obtain ⟨c0, c1, c2, f1⟩ := hR
  have hl : ∀ W : World, W.cell? ⟨B, 0, none⟩ = some (.string s) → W.cell? ⟨B, 1, none⟩ = some (.int .i64 at_) → Calls Try.prog 112 #[.pointer (some ⟨B, 0, none⟩)] W fun e w' => e = .returned (.int .i64 (s.size - at_)) ∧ ∃ m, W.drewN m = w' := by
    intro W d0 d1
    clear c0 c1 c2 f1
    go_enter Try.func112, Try.ntmps112
    go_wp2
    go_quiet (fail)
    go_wp2
    go_ret
    exact ⟨rfl, _, rfl⟩
  have HL := Lib.hid hl
  clear hl
  go_enter Try.func87, Try.ntmps87
  go_wp2_with fail
  refine (HL.out _ c0 c1).mono ?_
  rintro e w1 ⟨rfl, m1, rfl⟩
  go_wp2_with fail
  refine (HB.out _ (reads_drewN HR.out _)).mono ?_
  rintro e w2 ⟨rfl, m2, rfl⟩
  go_wp2
  go_ret
  exact ⟨rfl, _, drew_set_drew _ _ _ _ _⟩
end Go.Proofs.Ytnhfhnphmjhamaa
