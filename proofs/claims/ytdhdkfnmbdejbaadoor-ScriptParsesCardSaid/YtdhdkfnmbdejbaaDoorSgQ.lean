/- The law's anchor. No conditions but that the library's table reads as it is laid. -/
import Derived.Test.YtdhdkfnmbdejbaaDoorSgN
import Derived.Test.YtdhdkfnmbdejbaaDoorSgP
namespace Go.Proofs.YtdhdkfnmbdejbaaDoor
set_option linter.unusedVariables false
set_option linter.unusedSimpArgs false
open Go.RowKit

def flip : ActP := ⟨13, 0, 3, 17, 0, ⟨#[]⟩⟩
theorem flip_parse : parseP ⟨#[102, 108, 105, 112, 32, 51, 32, 49, 55]⟩ = (flip, 0) := by kernel_rfl
theorem flip_write : writeP flip = ⟨#[102, 108, 105, 112, 32, 51, 32, 49, 55]⟩ := by kernel_rfl
theorem flip_in : ActIn flip := ⟨⟨by decide, by decide⟩, ⟨by decide, by decide⟩, ⟨by decide, by decide⟩, by decide⟩
theorem cut_b : cutV ⟨#[98]⟩ = (⟨#[98]⟩, false) := by kernel_rfl
theorem cut_a : cutV ⟨#[33, 97]⟩ = (⟨#[97]⟩, true) := by kernel_rfl
theorem put_b : putF false 2 [] [] ⟨#[98]⟩ = (true, [], [⟨#[98]⟩]) := by unfold putF; rw [cut_b]; rfl
theorem put_a : putF false 2 [] [⟨#[98]⟩] ⟨#[33, 97]⟩ = (true, [⟨#[97]⟩], [⟨#[98]⟩]) := by unfold putF; rw [cut_a]; rfl
/-- the act and the feed of the anchor -/
structure WF (w : World) (X k a b c : Nat) (U P : List ByteArray) (w' : World) : Prop where
  own : Own w' X flip.cs
  feed : FeedAt w' k a b c 2 U P false
  bel : Below w.heap.size w w'
  ne : X < a ∧ X < b ∧ X < c
  le : w.heap.size ≤ a ∧ w.heap.size ≤ b ∧ w.heap.size ≤ c
theorem WF.below {w w' w2 : World} {X k a b c : Nat} {U P : List ByteArray} (h : WF w X k a b c U P w') (hb : Below w'.heap.size w' w2) : WF w X k a b c U P w2 :=
  ⟨own_below h.own hb, h.feed.below hb, h.bel.trans (hb.mono h.bel.size), h.ne, h.le⟩
theorem WF.tch {w w' w2 : World} {X k a b c : Nat} {U P U' P' : List ByteArray} (h : WF w X k a b c U P w') (hF : FeedAt w2 k a b c 2 U' P' false) (ht : Tch a b c w' w2) : WF w X k a b c U' P' w2 := by
  obtain ⟨n1, n2, n3⟩ := h.ne
  refine ⟨?_, hF, h.bel.trans (ht.below h.le.1 h.le.2.1 h.le.2.2), h.ne, h.le⟩
  have hk := ht.block X (by omega) (by omega) (by omega)
  exact ⟨by rw [ht.size]; exact h.own.1, fun j => by rw [World.cell?_of_block (w := w') (a := ⟨X, j, none⟩) hk]; exact h.own.2.1 j, fun j => by rw [World.frozen?_of_block (w := w') (a := ⟨X, j, none⟩) hk]; exact h.own.2.2 j⟩
theorem WF.new {w w1 w3 : World} {cs : Array Value} {k a b c : Nat} (hb1 : Below w.heap.size w w1) (hcs : cs = flip.cs) (hb3 : Below (w1.alloc (.cells cs 23)).heap.size (w1.alloc (.cells cs 23)) w3)
    (hlt : (w1.alloc (.cells cs 23)).heap.size ≤ a ∧ (w1.alloc (.cells cs 23)).heap.size ≤ b ∧ (w1.alloc (.cells cs 23)).heap.size ≤ c ∧ (w1.alloc (.cells cs 23)).heap.size ≤ k) (hF : FeedAt w3 k a b c 2 [] [] false) : WF w w1.heap.size k a b c [] [] w3 := by
  subst hcs
  rw [World.size_alloc] at hlt
  have hs := hb1.size
  exact ⟨own_below (own_new w1 flip.cs 23) hb3, hF, (below_alloc hb1 _).trans (hb3.mono (by rw [World.size_alloc]; omega)), by omega, by omega⟩
theorem WF.cells {w w' : World} {X k a b c : Nat} {U P : List ByteArray} (h : WF w X k a b c U P w') : w'.cell? ⟨X, 0, none⟩ = some (.int .i64 13) ∧ w'.cell? ⟨X, 1, none⟩ = some (.int .i64 0) ∧ w'.cell? ⟨X, 2, none⟩ = some (.int .i64 3) ∧ w'.cell? ⟨X, 3, none⟩ = some (.int .i64 17) ∧ w'.cell? ⟨X, 4, none⟩ = some (.int .i64 0) ∧ w'.cell? ⟨X, 5, none⟩ = some (.string ⟨#[]⟩) :=
  ⟨h.own.2.1 0, h.own.2.1 1, h.own.2.1 2, h.own.2.1 3, h.own.2.1 4, h.own.2.1 5⟩
theorem wput_b {w w' : World} {X k a b c : Nat} (h : WF w X k a b c [] [] w') : Calls Tryd.prog 15 #[.pointer (some ⟨k, 0, none⟩), .string ⟨#[98]⟩] w' fun e w2 => e = .returned (.bool true) ∧ WF w X k a b c [] [⟨#[98]⟩] w2 := by
  have := put_at h.feed ⟨#[98]⟩
  rw [put_b] at this
  exact this.mono fun e w2 ⟨he, hF, ht⟩ => ⟨he, h.tch hF ht⟩
theorem wput_a {w w' : World} {X k a b c : Nat} (h : WF w X k a b c [] [⟨#[98]⟩] w') : Calls Tryd.prog 15 #[.pointer (some ⟨k, 0, none⟩), .string ⟨#[33, 97]⟩] w' fun e w2 => e = .returned (.bool true) ∧ WF w X k a b c [⟨#[97]⟩] [⟨#[98]⟩] w2 := by
  have := put_at h.feed ⟨#[33, 97]⟩
  rw [put_a] at this
  exact this.mono fun e w2 ⟨he, hF, ht⟩ => ⟨he, h.tch hF ht⟩
theorem wnext {w w' : World} {X k a b c : Nat} (h : WF w X k a b c [⟨#[97]⟩] [⟨#[98]⟩] w') : Calls Tryd.prog 17 #[.pointer (some ⟨k, 0, none⟩)] w' fun e w2 => e = .returned (.tuple #[.string ⟨#[97]⟩, .bool true]) ∧ WF w X k a b c [] [⟨#[98]⟩] w2 :=
  (next_at h.feed).mono fun e w2 ⟨he, hF, ht⟩ => ⟨he, h.tch hF ht⟩
theorem wleft {w w' : World} {X k a b c : Nat} (h : WF w X k a b c [] [⟨#[98]⟩] w') : Calls Tryd.prog 16 #[.pointer (some ⟨k, 0, none⟩)] w' fun e w2 => e = .returned (.int .i64 1) ∧ WF w X k a b c [] [⟨#[98]⟩] w2 :=
  (left_at h.feed (by decide)).mono fun e w2 ⟨he, hF, ht⟩ => ⟨he, h.tch hF ht⟩
set_option maxRecDepth 100000 in
set_option maxHeartbeats 8000000 in
theorem works_any (w : World) (ht : TabW w) : Calls Tryd.prog 6 #[] w fun e w' => e = .returned (.bool true) ∧ Below w.heap.size w w' := by
  have hp := fun W => parse_any ⟨#[102, 108, 105, 112, 32, 51, 32, 49, 55]⟩ W
  rw [flip_parse] at hp
  have hp2 : ∀ W, Calls Tryd.prog 7 #[.string ⟨#[102, 108, 105, 112, 32, 51, 32, 49, 55]⟩] W fun e w' => e = .returned (.tuple #[.agg #[.int .i64 13, .int .i64 0, .int .i64 3, .int .i64 17, .int .i64 0, .string ⟨#[]⟩], .int .i64 0]) ∧ Below W.heap.size W w' := hp
  have hwr := fun W hW => write_any flip flip_in W hW
  rw [flip_write] at hwr
  have hwr2 : ∀ W, TabW W → Calls Tryd.prog 9 #[.agg #[.int .i64 13, .int .i64 0, .int .i64 3, .int .i64 17, .int .i64 0, .string ⟨#[]⟩]] W fun e w' => e = .returned (.string ⟨#[102, 108, 105, 112, 32, 51, 32, 49, 55]⟩) ∧ Below W.heap.size W w' := hwr
  have hnew := fun W => new_any 2 W
  rw [show roomN 2 = 2 from rfl] at hnew
  clear hp hwr
  go_enter Tryd.func6, Tryd.ntmps6
  go_wp2_with (first
    | (go_at_call 7; (with_reducible refine (hp2 _).mono ?_); rintro e w1 ⟨rfl, hb1⟩)
    | (go_at_call 12; (with_reducible refine (hnew _).mono ?_); rintro e w3 ⟨⟨k, a, b, c, rfl, hlt, hF⟩, hb3⟩; have h3 := WF.new hb1 rfl hb3 hlt hF; clear hb3 hlt hF)
    | (go_at_call 15; (with_reducible refine (wput_b h3).mono ?_); rintro e w4 ⟨rfl, h4⟩)
    | (go_at_call 15; (with_reducible refine (wput_a h4).mono ?_); rintro e w5 ⟨rfl, h5⟩)
    | (go_at_call 17; (with_reducible refine (wnext h5).mono ?_); rintro e w6 ⟨rfl, h6⟩; obtain ⟨c0, c1, c2, c3, c4, c5⟩ := h6.cells)
    | (go_at_call 9; (with_reducible refine (hwr2 _ (ht.below h6.bel)).mono ?_); rintro e w7 ⟨rfl, hb7⟩; have h7 := h6.below hb7)
    | (go_at_call 16; (with_reducible refine (wleft h7).mono ?_); rintro e w8 ⟨rfl, h8⟩))
  go_ret
  exact ⟨rfl, h8.bel⟩
end Go.Proofs.YtdhdkfnmbdejbaaDoor
