/- A beginning as bytes: the contract of head.Put. No conditions. -/
import Derived.Test.YtnhfhnphmjhamaaHead3
import Derived.Test.YtnhfhnphmjhamaaCut
import Derived.Test.YtnhfhnphmjhamaaPlHead2
namespace Go.Proofs.Ytnhfhnphmjhamaa
set_option linter.unusedVariables false
set_option linter.unusedSimpArgs false
open Go.RowKit

set_option maxRecDepth 100000 in
set_option maxHeartbeats 4000000 in
theorem head_put_ok (src dst words ccval cover sum kind seq : Int) (long : Bool) (w : World) (hc : Head.check ⟨src, dst, words, ccval, cover, sum, kind, long, seq⟩ = 0) :
    Calls Try.prog 39 #[(⟨src, dst, words, ccval, cover, sum, kind, long, seq⟩ : Head.H).v] w fun e w' => e = .returned (.tuple #[.string ⟨(Head.put ⟨src, dst, words, ccval, cover, sum, kind, long, seq⟩).toArray⟩, .int .i64 0]) ∧ Below w.heap.size w w' := by
  have HC := Lib.hid hc
  clear hc
  go_enter Try.func39, Try.ntmps39
  go_wp2_with fail
  refine (head_check ⟨src, dst, words, ccval, cover, sum, kind, long, seq⟩ _).mono ?_
  rw [HC.out]
  rintro e w1 ⟨rfl, hb⟩; have hz := hb.size; (try simp only [World.size_alloc, World.size_setCell, World.size_drew, size_drewN] at hz); apply own_step (B := w.heap.size) hb; (focus (repeat (first | (with_reducible assumption) | (with_reducible exact own_new _ _ _) | ((with_reducible apply own_new'); focus (first | omega | (simp; done) | (simp; omega))) | (with_reducible apply own_drewN) | (with_reducible apply own_drew) | (with_reducible apply own_alloc) | (with_reducible apply own_setT) | ((with_reducible apply own_set_otherH); focus (first | (simp; done) | (simp; omega)))))); intro hO0; have hk0 := hO0.2.1; have hl0 := hO0.1; have hf0 := hO0.2.2; (try simp only [List.setIfInBounds_toArray, List.set_cons_zero, List.set_cons_succ] at hO0 hk0)
  go_wp2_with fail
  go_region_held3 (fun w' => w'.cell? ⟨w.heap.size, 0, none⟩ = some (.int .i64 src) ∧ w'.cell? ⟨w.heap.size, 1, none⟩ = some (.int .i64 dst)) (go_keep) (first | (go_at_call 79; refine (oct_putL _ _ _ (by omega) (by omega) (by simp [Oct.be_length]) _).mono ?_; rintro e w3 ⟨rfl, hb⟩; have hz := hb.size; (try simp only [World.size_alloc, World.size_setCell, World.size_drew, size_drewN] at hz); apply own_step (B := w.heap.size) hb; (focus (repeat (first | (with_reducible assumption) | (with_reducible exact own_new _ _ _) | ((with_reducible apply own_new'); focus (first | omega | (simp; done) | (simp; omega))) | (with_reducible apply own_drewN) | (with_reducible apply own_drew) | (with_reducible apply own_alloc) | (with_reducible apply own_setT) | ((with_reducible apply own_set_otherH); focus (first | (simp; done) | (simp; omega)))))); intro hO0; have hk0 := hO0.2.1; have hl0 := hO0.1; have hf0 := hO0.2.2; (try simp only [List.setIfInBounds_toArray, List.set_cons_zero, List.set_cons_succ] at hO0 hk0)))
  have hk := Head.check_ok HC.out
  simp only [] at hk
  obtain ⟨⟨k0, k1⟩, _, ⟨s0, s1⟩, ⟨d0, d1⟩, ⟨m0, m1⟩, ⟨v0, v1⟩, ⟨c0, c1⟩, ⟨q0, q1⟩, ⟨w0, w1'⟩, _⟩ := hk
  have hj : ∀ a b : Int, 0 ≤ a → a ≤ 15 → 0 ≤ b → b ≤ 15 → bits .or .i64 (a * 16) b = 16 * a + b := by
    intro a b h0 h1 h2 h3
    obtain ⟨x, rfl⟩ := Int.eq_ofNat_of_zero_le h0
    obtain ⟨y, rfl⟩ := Int.eq_ofNat_of_zero_le h2
    have := Head.i64_or_join 4 x y (by omega) (by omega) (by omega)
    rw [show ((x * 2 ^ 4 : Nat) : Int) = (x : Int) * 16 by omega] at this
    rw [this]; omega
  have hj1 : ∀ a : Int, 0 ≤ a → a ≤ 9 → bits .or .i64 (a * 2) 1 = 2 * a + 1 := by
    intro a h0 h1
    obtain ⟨x, rfl⟩ := Int.eq_ofNat_of_zero_le h0
    have := Head.i64_or_join 1 x 1 (by omega) (by omega) (by omega)
    rw [show ((x * 2 ^ 1 : Nat) : Int) = (x : Int) * 2 by omega] at this
    rw [show ((1 : Nat) : Int) = 1 from rfl] at this
    rw [this]; omega
  have hor := hj ccval cover v0 v1 c0 c1
  have hor1 := hj1 kind k0 k1
  have hw16 : IntKind.i64.wrap (ccval * 16) = ccval * 16 := IntWalk.i64_in _ (by omega)
  have hw2 : IntKind.i64.wrap (kind * 2) = kind * 2 := IntWalk.i64_in _ (by omega)
  clear hj hj1
  have hcat : ∀ a b : List UInt8, (⟨a.toArray⟩ : ByteArray) ++ (⟨b.toArray⟩ : ByteArray) = ⟨(a ++ b).toArray⟩ := fun a b => ByteArray.ext (by simp)
  have hbe : ∀ u k, (Oct.be u k).length = k := Oct.be_length
  go_wp2_with fail
  go_region_held3 (fun w' => w'.cell? ⟨w.heap.size, 2, none⟩ = some (.int .i64 words) ∧ w'.cell? ⟨w.heap.size, 3, none⟩ = some (.int .i64 ccval) ∧ w'.cell? ⟨w.heap.size, 4, none⟩ = some (.int .i64 cover)) (go_keep) (first | (go_at_call 79; refine (oct_putL _ _ _ (by omega) (by omega) (by simp [Oct.be_length]) _).mono ?_; rintro e w3 ⟨rfl, hb⟩; have hz := hb.size; (try simp only [World.size_alloc, World.size_setCell, World.size_drew, size_drewN] at hz); apply own_step (B := w.heap.size) hb; (focus (repeat (first | (with_reducible assumption) | (with_reducible exact own_new _ _ _) | ((with_reducible apply own_new'); focus (first | omega | (simp; done) | (simp; omega))) | (with_reducible apply own_drewN) | (with_reducible apply own_drew) | (with_reducible apply own_alloc) | (with_reducible apply own_setT) | ((with_reducible apply own_set_otherH); focus (first | (simp; done) | (simp; omega)))))); intro hO0; have hk0 := hO0.2.1; have hl0 := hO0.1; have hf0 := hO0.2.2; (try simp only [List.setIfInBounds_toArray, List.set_cons_zero, List.set_cons_succ] at hO0 hk0)))
  go_wp2_with fail
  refine (oct_putL _ _ _ (by omega) (by omega) (by simp [Oct.be_length]) _).mono ?_; rintro e w3 ⟨rfl, hb⟩; have hz := hb.size; (try simp only [World.size_alloc, World.size_setCell, World.size_drew, size_drewN] at hz); apply own_step (B := w.heap.size) hb; (focus (repeat (first | (with_reducible assumption) | (with_reducible exact own_new _ _ _) | ((with_reducible apply own_new'); focus (first | omega | (simp; done) | (simp; omega))) | (with_reducible apply own_drewN) | (with_reducible apply own_drew) | (with_reducible apply own_alloc) | (with_reducible apply own_setT) | ((with_reducible apply own_set_otherH); focus (first | (simp; done) | (simp; omega)))))); intro hO0; have hk0 := hO0.2.1; have hl0 := hO0.1; have hf0 := hO0.2.2; (try simp only [List.setIfInBounds_toArray, List.set_cons_zero, List.set_cons_succ] at hO0 hk0)
  go_wp2_with fail
  · go_region_held3 (fun w' => w'.cell? ⟨w.heap.size, 6, none⟩ = some (.int .i64 kind) ∧ w'.cell? ⟨w.heap.size, 8, none⟩ = some (.int .i64 seq)) (go_keep) (first | (go_at_call 79; refine (oct_putL _ _ _ (by omega) (by omega) (by simp [Oct.be_length]) _).mono ?_; rintro e w3 ⟨rfl, hb⟩; have hz := hb.size; (try simp only [World.size_alloc, World.size_setCell, World.size_drew, size_drewN] at hz); apply own_step (B := w.heap.size) hb; (focus (repeat (first | (with_reducible assumption) | (with_reducible exact own_new _ _ _) | ((with_reducible apply own_new'); focus (first | omega | (simp; done) | (simp; omega))) | (with_reducible apply own_drewN) | (with_reducible apply own_drew) | (with_reducible apply own_alloc) | (with_reducible apply own_setT) | ((with_reducible apply own_set_otherH); focus (first | (simp; done) | (simp; omega)))))); intro hO0; have hk0 := hO0.2.1; have hl0 := hO0.1; have hf0 := hO0.2.2; (try simp only [List.setIfInBounds_toArray, List.set_cons_zero, List.set_cons_succ] at hO0 hk0)))
    go_wp2_with fail
    clear hbe hcat hor hor1 hw16 hw2
    go_returns
    go_light
    have hlong : long = true := by assumption
    subst hlong
    exact ⟨ret_v (by simp [Head.put, Int.mul_comm]), by (repeat' (first | (with_reducible exact Below.refl _ _) | (with_reducible refine below_alloc ?_ _) | (with_reducible refine Below.drew ?_) | (with_reducible refine below_drewN ?_ _) | (with_reducible refine Below.setCell ?_ ?_ _) | (with_reducible assumption) | (with_reducible refine below_of ?_ (by assumption)) | omega | (simp only [World.size_alloc, World.size_setCell, World.size_drew, size_drewN] at *; omega) | (simp; omega)))⟩
  · go_region_held3 (fun w' => w'.cell? ⟨w.heap.size, 6, none⟩ = some (.int .i64 kind) ∧ w'.cell? ⟨w.heap.size, 8, none⟩ = some (.int .i64 seq)) (go_keep) (first | (go_at_call 79; refine (oct_putL _ _ _ (by omega) (by omega) (by simp [Oct.be_length]) _).mono ?_; rintro e w3 ⟨rfl, hb⟩; have hz := hb.size; (try simp only [World.size_alloc, World.size_setCell, World.size_drew, size_drewN] at hz); apply own_step (B := w.heap.size) hb; (focus (repeat (first | (with_reducible assumption) | (with_reducible exact own_new _ _ _) | ((with_reducible apply own_new'); focus (first | omega | (simp; done) | (simp; omega))) | (with_reducible apply own_drewN) | (with_reducible apply own_drew) | (with_reducible apply own_alloc) | (with_reducible apply own_setT) | ((with_reducible apply own_set_otherH); focus (first | (simp; done) | (simp; omega)))))); intro hO0; have hk0 := hO0.2.1; have hl0 := hO0.1; have hf0 := hO0.2.2; (try simp only [List.setIfInBounds_toArray, List.set_cons_zero, List.set_cons_succ] at hO0 hk0)))
    go_wp2_with fail
    clear hbe hcat hor hor1 hw16 hw2
    go_returns
    go_light
    have hlong : long = false := by assumption
    subst hlong
    exact ⟨ret_v (by simp [Head.put, Int.mul_comm]), by (repeat' (first | (with_reducible exact Below.refl _ _) | (with_reducible refine below_alloc ?_ _) | (with_reducible refine Below.drew ?_) | (with_reducible refine below_drewN ?_ _) | (with_reducible refine Below.setCell ?_ ?_ _) | (with_reducible assumption) | (with_reducible refine below_of ?_ (by assumption)) | omega | (simp only [World.size_alloc, World.size_setCell, World.size_drew, size_drewN] at *; omega) | (simp; omega)))⟩
set_option maxRecDepth 100000 in
theorem head_put_no (h : Head.H) (w : World) (hc : Head.check h ≠ 0) :
    Calls Try.prog 39 #[h.v] w fun e w' => e = .returned (.tuple #[.string ⟨#[]⟩, .int .i64 (Head.check h)]) ∧ Below w.heap.size w w' := by
  have hn : (Head.check h != 0) = true := by simpa using hc
  clear hc
  go_enter Try.func39, Try.ntmps39
  go_wp2_with fail
  refine (head_check h _).mono ?_
  rintro e w1 ⟨rfl, hb⟩; have hz := hb.size; (try simp only [World.size_alloc, World.size_setCell, World.size_drew, size_drewN] at hz); apply own_step (B := w.heap.size) hb; (focus (repeat (first | (with_reducible assumption) | (with_reducible exact own_new _ _ _) | ((with_reducible apply own_new'); focus (first | omega | (simp; done) | (simp; omega))) | (with_reducible apply own_drewN) | (with_reducible apply own_drew) | (with_reducible apply own_alloc) | (with_reducible apply own_setT) | ((with_reducible apply own_set_otherH); focus (first | (simp; done) | (simp; omega)))))); intro hO0; have hk0 := hO0.2.1; have hl0 := hO0.1; have hf0 := hO0.2.2; (try simp only [List.setIfInBounds_toArray, List.set_cons_zero, List.set_cons_succ] at hO0 hk0)
  go_wp2
  go_returns
  exact ⟨rfl, by (repeat' (first | (with_reducible exact Below.refl _ _) | (with_reducible refine below_alloc ?_ _) | (with_reducible refine Below.drew ?_) | (with_reducible refine below_drewN ?_ _) | (with_reducible refine Below.setCell ?_ ?_ _) | (with_reducible assumption) | (with_reducible refine below_of ?_ (by assumption)) | omega | (simp only [World.size_alloc, World.size_setCell, World.size_drew, size_drewN] at *; omega) | (simp; omega)))⟩
end Go.Proofs.Ytnhfhnphmjhamaa
