/- A feed's Next and NewFeed. No conditions. -/
import Derived.Test.YtdhdkfnmbdejbaaDoorSfC
import Derived.Deep.RegionWith
namespace Go.Proofs.YtdhdkfnmbdejbaaDoor
set_option linter.unusedVariables false
set_option linter.unusedSimpArgs false
open Go.RowKit Go.Conc

set_option maxRecDepth 100000 in
set_option maxHeartbeats 2000000 in
theorem next_u {w : World} {k cu cap s r : Nat} {buf : Array Value} {x : Value} (h0 : w.cell? ⟨k, 0, none⟩ = some (.chan (some cu))) (hb : 0 < buf.size) (hx : buf.getD 0 undef = x) (hc : w.heap[cu]? = some (.chan cap buf false s r false)) :
    Calls Tryd.prog 17 #[.pointer (some ⟨k, 0, none⟩)] w fun e w' => e = .returned (.tuple #[x, .bool true]) ∧ w.setChan cu cap (buf.extract 1 buf.size) false s (r + 1) false = w' := by
  go_enter Tryd.func17, Tryd.ntmps17
  go_wp2_with (first
    | (go_at_call 36; refine (first_some hb hx hc).mono ?_; rintro e w1 ⟨rfl, rfl⟩))
  go_ret2
  exact ⟨rfl, rfl⟩
set_option maxRecDepth 100000 in
set_option maxHeartbeats 2000000 in
theorem next_p {w : World} {k cu cp capu su ru cap s r : Nat} {buf : Array Value} {x : Value} (h0 : w.cell? ⟨k, 0, none⟩ = some (.chan (some cu))) (h1 : w.cell? ⟨k, 1, none⟩ = some (.chan (some cp))) (hu : w.heap[cu]? = some (.chan capu #[] false su ru false)) (hb : 0 < buf.size) (hx : buf.getD 0 undef = x) (hc : w.heap[cp]? = some (.chan cap buf false s r false)) :
    Calls Tryd.prog 17 #[.pointer (some ⟨k, 0, none⟩)] w fun e w' => e = .returned (.tuple #[x, .bool true]) ∧ w.setChan cp cap (buf.extract 1 buf.size) false s (r + 1) false = w' := by
  go_enter Tryd.func17, Tryd.ntmps17
  go_wp2_with (first
    | (go_at_call 36; with_reducible refine (first_none hu).mono ?_; rintro e w1 ⟨rfl, hw⟩; obtain rfl : w = w1 := hw.symm)
    | (go_at_call 36; with_reducible refine (first_some hb hx hc).mono ?_; rintro e w1 ⟨rfl, rfl⟩))
  go_ret2
  exact ⟨rfl, rfl⟩
set_option maxRecDepth 100000 in
set_option maxHeartbeats 2000000 in
theorem next_0 {w : World} {k cu cp capu su ru cap s r : Nat} (h0 : w.cell? ⟨k, 0, none⟩ = some (.chan (some cu))) (h1 : w.cell? ⟨k, 1, none⟩ = some (.chan (some cp))) (hu : w.heap[cu]? = some (.chan capu #[] false su ru false)) (hc : w.heap[cp]? = some (.chan cap #[] false s r false)) :
    Calls Tryd.prog 17 #[.pointer (some ⟨k, 0, none⟩)] w fun e w' => e = .returned (.tuple #[.string ⟨#[]⟩, .bool false]) ∧ w = w' := by
  go_enter Tryd.func17, Tryd.ntmps17
  go_wp2_with (first
    | (go_at_call 36; with_reducible refine (first_none hu).mono ?_; rintro e w1 ⟨rfl, hw⟩; obtain rfl : w = w1 := hw.symm)
    | (go_at_call 36; with_reducible refine (first_none hc).mono ?_; rintro e w1 ⟨rfl, hw⟩; obtain rfl : w = w1 := hw.symm))
  go_ret2
  exact ⟨rfl, rfl⟩
theorem bytesS : ∃ i, Tryd.prog.info? 9 = some i ∧ i.bytes = 16 := by
  have h : (Tryd.prog.info? 9).map (·.bytes) = some 16 := by kernel_rfl
  obtain ⟨i, hi, hb⟩ := Option.map_eq_some_iff.1 h
  exact ⟨i, hi, hb⟩
theorem bytesB : ∃ i, Tryd.prog.info? 4 = some i ∧ i.bytes = 1 := by
  have h : (Tryd.prog.info? 4).map (·.bytes) = some 1 := by kernel_rfl
  obtain ⟨i, hi, hb⟩ := Option.map_eq_some_iff.1 h
  exact ⟨i, hi, hb⟩
theorem mkS {n : Nat} (hn : n ≤ 100) (w : World) : (Instr.makeChan 57 (.int .i64 n)).run Tryd.prog w = .ok (.chan (some w.heap.size)) (w.alloc (.chan n #[] false 0 0 false)) := by
  obtain ⟨i, hi, hb⟩ := bytesS
  exact run_makeChan (P := Tryd.prog) (w := w) Tryd.underlying57 hi .i64 n (by omega) (by rw [hb]; omega)
theorem mkB (w : World) : (Instr.makeChan 58 (.int .i64 0)).run Tryd.prog w = .ok (.chan (some w.heap.size)) (w.alloc (.chan 0 #[] false 0 0 false)) := by
  obtain ⟨i, hi, hb⟩ := bytesB
  simpa using run_makeChan (P := Tryd.prog) (w := w) Tryd.underlying58 hi .i64 0 (by omega) (by rw [hb]; omega)
/-- a feed: its channels, what waits in each, whether it is closed -/
structure FeedAt (w : World) (k cu cp cc n : Nat) (U P : List ByteArray) (closed : Bool) : Prop where
  h0 : w.cell? ⟨k, 0, none⟩ = some (.chan (some cu))
  h1 : w.cell? ⟨k, 1, none⟩ = some (.chan (some cp))
  h2 : w.cell? ⟨k, 2, none⟩ = some (.chan (some cc))
  hu : ∃ s r, w.heap[cu]? = some (.chan n (U.map Value.string).toArray false s r false)
  hp : ∃ s r, w.heap[cp]? = some (.chan n (P.map Value.string).toArray false s r false)
  hc : ∃ s r, w.heap[cc]? = some (.chan 0 #[] closed s r false)
  ne : cu ≠ cp ∧ cu ≠ cc ∧ cp ≠ cc ∧ k ≠ cu ∧ k ≠ cp ∧ k ≠ cc
/-- a new feed -/
def NewAt (w : World) (n : Nat) (e : Ending) (w' : World) : Prop := ∃ k cu cp cc, e = .returned (.pointer (some ⟨k, 0, none⟩)) ∧ (w.heap.size ≤ cu ∧ w.heap.size ≤ cp ∧ w.heap.size ≤ cc ∧ w.heap.size ≤ k) ∧ FeedAt w' k cu cp cc n [] [] false
theorem al4 (w : World) (o0 o1 o2 : Obj) (cs : Array Value) (t : TypeId) :
    ((((w.alloc o0).alloc o1).alloc o2).alloc (.cells cs t)).drew.heap[w.heap.size]? = some o0 ∧ ((((w.alloc o0).alloc o1).alloc o2).alloc (.cells cs t)).drew.heap[w.heap.size + 1]? = some o1 ∧ ((((w.alloc o0).alloc o1).alloc o2).alloc (.cells cs t)).drew.heap[w.heap.size + 1 + 1]? = some o2 ∧ (∀ j, ((((w.alloc o0).alloc o1).alloc o2).alloc (.cells cs t)).drew.cell? ⟨w.heap.size + 1 + 1 + 1, j, none⟩ = cs[j]?) ∧ Below w.heap.size w ((((w.alloc o0).alloc o1).alloc o2).alloc (.cells cs t)).drew := by
  have z1 : (w.alloc o0).heap.size = w.heap.size + 1 := World.size_alloc ..
  have z2 : ((w.alloc o0).alloc o1).heap.size = w.heap.size + 1 + 1 := by rw [World.size_alloc, z1]
  have z3 : (((w.alloc o0).alloc o1).alloc o2).heap.size = w.heap.size + 1 + 1 + 1 := by rw [World.size_alloc, z2]
  refine ⟨?_, ?_, ?_, fun j => ?_, ?_⟩
  · show ((((w.alloc o0).alloc o1).alloc o2).alloc (.cells cs t)).heap[w.heap.size]? = _
    rw [Below.heap_alloc _ _ _ (by rw [z3]; omega), Below.heap_alloc _ _ _ (by rw [z2]; omega), Below.heap_alloc _ _ _ (by rw [z1]; omega)]
    exact heap_alloc_new w _
  · show ((((w.alloc o0).alloc o1).alloc o2).alloc (.cells cs t)).heap[w.heap.size + 1]? = _
    rw [Below.heap_alloc _ _ _ (by rw [z3]; omega), Below.heap_alloc _ _ _ (by rw [z2]; omega)]
    have := heap_alloc_new (w.alloc o0) o1
    rw [z1] at this
    exact this
  · show ((((w.alloc o0).alloc o1).alloc o2).alloc (.cells cs t)).heap[w.heap.size + 1 + 1]? = _
    rw [Below.heap_alloc _ _ _ (by rw [z3]; omega)]
    have := heap_alloc_new ((w.alloc o0).alloc o1) o2
    rw [z2] at this
    exact this
  · have := (own_new (((w.alloc o0).alloc o1).alloc o2) cs t).2.1 j
    rw [z3] at this
    exact this
  · exact ((((((Below.refl _ w).alloc (Nat.le_refl _) _).alloc (by rw [z1]; omega) _).alloc (by rw [z2]; omega) _).alloc (by rw [z3]; omega) _)).drew
theorem feed_new {w W : World} {n a b c k : Nat} {cs : Array Value} (hk : ∀ j, W.cell? ⟨k, j, none⟩ = cs[j]?) (hcs : cs = #[.chan (some a), .chan (some b), .chan (some c)])
    (ha : W.heap[a]? = some (.chan n #[] false 0 0 false)) (hb : W.heap[b]? = some (.chan n #[] false 0 0 false)) (hc : W.heap[c]? = some (.chan 0 #[] false 0 0 false))
    (lt : w.heap.size ≤ a ∧ w.heap.size ≤ b ∧ w.heap.size ≤ c ∧ w.heap.size ≤ k) (ne : a ≠ b ∧ a ≠ c ∧ b ≠ c ∧ k ≠ a ∧ k ≠ b ∧ k ≠ c) (hw : Below w.heap.size w W) : NewAt w n (.returned (.pointer (some ⟨k, 0, none⟩))) W ∧ Below w.heap.size w W := by
  subst hcs
  exact ⟨⟨k, a, b, c, rfl, lt, ⟨by rw [hk]; rfl, by rw [hk]; rfl, by rw [hk]; rfl, ⟨0, 0, ha⟩, ⟨0, 0, hb⟩, ⟨0, 0, hc⟩, ne⟩⟩, hw⟩
set_option maxRecDepth 100000 in
set_option maxHeartbeats 4000000 in
theorem new_mid {n : Nat} (h1 : 1 ≤ n) (hn : n ≤ 100) (w : World) : Calls Tryd.prog 12 #[.int .i64 n] w fun e w' => NewAt w n e w' ∧ Below w.heap.size w w' := by
  have hS := fun W => mkS hn W
  have hB := mkB
  have hi1 : ¬ ((n : Int) < 1) := by omega
  have hi2 : (n : Int) ≤ 100 := by omega
  go_enter Tryd.func12, Tryd.ntmps12
  go_upto_region 2 with (fail)
  go_region_with (fail)
  all_goals
    go_wp2
    go_ret
    first
      | exact feed_new (al4 w _ _ _ _ _).2.2.2.1 rfl (al4 w _ _ _ _ _).1 (al4 w _ _ _ _ _).2.1 (al4 w _ _ _ _ _).2.2.1 (by omega) (by omega) (al4 w _ _ _ _ _).2.2.2.2
      | exact feed_new (al4 w _ _ _ _ _).2.2.2.1 rfl (al4 w _ _ _ _ _).1 (al4 w _ _ _ _ _).2.2.1 (al4 w _ _ _ _ _).2.1 (by omega) (by omega) (al4 w _ _ _ _ _).2.2.2.2
      | exact feed_new (al4 w _ _ _ _ _).2.2.2.1 rfl (al4 w _ _ _ _ _).2.1 (al4 w _ _ _ _ _).1 (al4 w _ _ _ _ _).2.2.1 (by omega) (by omega) (al4 w _ _ _ _ _).2.2.2.2
      | exact feed_new (al4 w _ _ _ _ _).2.2.2.1 rfl (al4 w _ _ _ _ _).2.1 (al4 w _ _ _ _ _).2.2.1 (al4 w _ _ _ _ _).1 (by omega) (by omega) (al4 w _ _ _ _ _).2.2.2.2
      | exact feed_new (al4 w _ _ _ _ _).2.2.2.1 rfl (al4 w _ _ _ _ _).2.2.1 (al4 w _ _ _ _ _).1 (al4 w _ _ _ _ _).2.1 (by omega) (by omega) (al4 w _ _ _ _ _).2.2.2.2
      | exact feed_new (al4 w _ _ _ _ _).2.2.2.1 rfl (al4 w _ _ _ _ _).2.2.1 (al4 w _ _ _ _ _).2.1 (al4 w _ _ _ _ _).1 (by omega) (by omega) (al4 w _ _ _ _ _).2.2.2.2
set_option maxRecDepth 100000 in
set_option maxHeartbeats 4000000 in
theorem new_lo {m : Int} (hm : m < 1) (w : World) : Calls Tryd.prog 12 #[.int .i64 m] w fun e w' => NewAt w 1 e w' ∧ Below w.heap.size w w' := by
  have hS := fun W => mkS (n := 1) (by omega) W
  rw [show ((1 : Nat) : Int) = 1 from rfl] at hS
  have hB := mkB
  have hi1 : m ≤ 1 := by omega
  have hi3 : ¬ (1 ≤ m) := by omega
  go_enter Tryd.func12, Tryd.ntmps12
  go_upto_region 2 with (fail)
  go_region_with (fail)
  all_goals
    go_wp2
    go_ret
    first
      | exact feed_new (al4 w _ _ _ _ _).2.2.2.1 rfl (al4 w _ _ _ _ _).1 (al4 w _ _ _ _ _).2.1 (al4 w _ _ _ _ _).2.2.1 (by omega) (by omega) (al4 w _ _ _ _ _).2.2.2.2
      | exact feed_new (al4 w _ _ _ _ _).2.2.2.1 rfl (al4 w _ _ _ _ _).1 (al4 w _ _ _ _ _).2.2.1 (al4 w _ _ _ _ _).2.1 (by omega) (by omega) (al4 w _ _ _ _ _).2.2.2.2
      | exact feed_new (al4 w _ _ _ _ _).2.2.2.1 rfl (al4 w _ _ _ _ _).2.1 (al4 w _ _ _ _ _).1 (al4 w _ _ _ _ _).2.2.1 (by omega) (by omega) (al4 w _ _ _ _ _).2.2.2.2
      | exact feed_new (al4 w _ _ _ _ _).2.2.2.1 rfl (al4 w _ _ _ _ _).2.1 (al4 w _ _ _ _ _).2.2.1 (al4 w _ _ _ _ _).1 (by omega) (by omega) (al4 w _ _ _ _ _).2.2.2.2
      | exact feed_new (al4 w _ _ _ _ _).2.2.2.1 rfl (al4 w _ _ _ _ _).2.2.1 (al4 w _ _ _ _ _).1 (al4 w _ _ _ _ _).2.1 (by omega) (by omega) (al4 w _ _ _ _ _).2.2.2.2
      | exact feed_new (al4 w _ _ _ _ _).2.2.2.1 rfl (al4 w _ _ _ _ _).2.2.1 (al4 w _ _ _ _ _).2.1 (al4 w _ _ _ _ _).1 (by omega) (by omega) (al4 w _ _ _ _ _).2.2.2.2
set_option maxRecDepth 100000 in
set_option maxHeartbeats 4000000 in
theorem new_hi {m : Int} (hm : 100 < m) (w : World) : Calls Tryd.prog 12 #[.int .i64 m] w fun e w' => NewAt w 100 e w' ∧ Below w.heap.size w w' := by
  have hS := fun W => mkS (n := 100) (by omega) W
  rw [show ((100 : Nat) : Int) = 100 from rfl] at hS
  have hB := mkB
  have hi1 : ¬ m < 1 := by omega
  have hi4 : 1 ≤ m := by omega
  have hi2 : ¬ m ≤ 100 := by omega
  have hi5 : ¬ m < 100 := by omega
  go_enter Tryd.func12, Tryd.ntmps12
  go_upto_region 2 with (fail)
  go_region_with (fail)
  all_goals
    go_wp2
    go_ret
    first
      | exact feed_new (al4 w _ _ _ _ _).2.2.2.1 rfl (al4 w _ _ _ _ _).1 (al4 w _ _ _ _ _).2.1 (al4 w _ _ _ _ _).2.2.1 (by omega) (by omega) (al4 w _ _ _ _ _).2.2.2.2
      | exact feed_new (al4 w _ _ _ _ _).2.2.2.1 rfl (al4 w _ _ _ _ _).1 (al4 w _ _ _ _ _).2.2.1 (al4 w _ _ _ _ _).2.1 (by omega) (by omega) (al4 w _ _ _ _ _).2.2.2.2
      | exact feed_new (al4 w _ _ _ _ _).2.2.2.1 rfl (al4 w _ _ _ _ _).2.1 (al4 w _ _ _ _ _).1 (al4 w _ _ _ _ _).2.2.1 (by omega) (by omega) (al4 w _ _ _ _ _).2.2.2.2
      | exact feed_new (al4 w _ _ _ _ _).2.2.2.1 rfl (al4 w _ _ _ _ _).2.1 (al4 w _ _ _ _ _).2.2.1 (al4 w _ _ _ _ _).1 (by omega) (by omega) (al4 w _ _ _ _ _).2.2.2.2
      | exact feed_new (al4 w _ _ _ _ _).2.2.2.1 rfl (al4 w _ _ _ _ _).2.2.1 (al4 w _ _ _ _ _).1 (al4 w _ _ _ _ _).2.1 (by omega) (by omega) (al4 w _ _ _ _ _).2.2.2.2
      | exact feed_new (al4 w _ _ _ _ _).2.2.2.1 rfl (al4 w _ _ _ _ _).2.2.1 (al4 w _ _ _ _ _).2.1 (al4 w _ _ _ _ _).1 (by omega) (by omega) (al4 w _ _ _ _ _).2.2.2.2
/-- the room of a feed -/
def roomN (m : Int) : Nat := if m < 1 then 1 else if 100 < m then 100 else m.toNat
theorem new_any (m : Int) (w : World) : Calls Tryd.prog 12 #[.int .i64 m] w fun e w' => NewAt w (roomN m) e w' ∧ Below w.heap.size w w' := by
  unfold roomN
  by_cases h1 : m < 1
  · rw [if_pos h1]; exact new_lo h1 w
  · by_cases h2 : 100 < m
    · rw [if_neg h1, if_pos h2]; exact new_hi h2 w
    · rw [if_neg h1, if_neg h2]
      have := new_mid (n := m.toNat) (by omega) (by omega) w
      rw [show ((m.toNat : Nat) : Int) = m by omega] at this
      exact this
end Go.Proofs.YtdhdkfnmbdejbaaDoor
