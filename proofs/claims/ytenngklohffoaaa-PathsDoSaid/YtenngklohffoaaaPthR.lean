/- Paths: all paths of a table that has one. No conditions. -/
import Derived.Test.YtenngklohffoaaaPthS
import Derived.Test.YtenngklohffoaaaPthM
import Derived.Maps.RangeWalk
import Derived.Sort.OwnSorted
import Derived.Deep.QuietTactic
import Derived.BigQuiet
import Derived.StillTailTactics
namespace Go.Proofs.Ytenngklohffoaaa
set_option linter.unusedVariables false
set_option linter.unusedSimpArgs false
open Go.RowKit Sym Go.Maps Go.WideMaps

theorem ptr_info : (Try.prog.info? 28).map (fun i => (i.zero, i.size, i.bytes)) = some (some (.pointer none), 1, 8) := by kernel_rfl
theorem oneR0 {D : DataW Value} {l kl : Lit} {v c : Value} {y : DataW Value × List MemPlace} (hD : D = .map [(l, .held v)]) (hv : R0 c = some y) (hat : ∀ zd, D.atKey kl zd = y.1) : c = v := by
  subst hD
  unfold R0 at hv
  rw [Option.some.injEq] at hv
  subst hv
  have h1 := hat .nil
  unfold DataW.atKey at h1
  simp only [List.find?_cons, List.find?_nil] at h1
  cases hs : l.sameKey kl
  · rw [hs] at h1; cases h1
  · rw [hs] at h1; cases h1; rfl
set_option maxRecDepth 100000 in
set_option maxHeartbeats 2000000 in
theorem all1 {b tb : Nat} {D : DataW Value} {l : Lit} {q : Option Addr} {w : World} (hD : D = .map [(l, .held (.pointer q))]) (hll : l.sameKey l = true) (htb : w.cell? ⟨tb, 0, none⟩ = some (.map (some b))) (hown : w.ownsMap Try.prog 23 R0 b 1 D) :
    Calls Try.prog 8 #[.pointer (some ⟨tb, 0, none⟩)] w fun e w' => ∃ u, e = .returned u ∧ w'.ownsRow w.heap.size 28 1 u 1 [.pointer q] ∧ Below w.heap.size w w' := by
  subst hD
  obtain ⟨i0, hi, hz0, hz1, hz2⟩ := info_parts ptr_info
  have hsl : tb < w.heap.size := lt_of_cell htb
  have hbl := hown.lt
  go_enter Try.func8, Try.ntmps8
  go_wp2_with (first
    | (at_range; refine wpList_range_own _ rfl _ 62 rfl 23 28 keyedPlace Try.underlying62 _ b 1 _ rfl hown ?_; intro w0 hrg0 hg0 hs0)
    | go_in)
  go_frame
  go_loopw [3] (fun u wr => ∃ (left : Lit → Bool) (cnt : Nat) (ss : List Value), wr.ranges Try.prog 23 R0 b w.heap.size 1 (.map [(l, .held (.pointer q))]) left cnt ∧ ss.length + cnt ≤ 1 ∧
      wr.ownsRow w.heap.size 28 1 u ss.length ss ∧ ((ss = [] ∧ left l = true) ∨ ss = [Value.pointer q]) ∧ Below w.heap.size w wr)
    (fun _ wr => wr.rangeLeft b w.heap.size)
  case atStart =>
    exact ⟨_, _, [], hrg0, by simp [Maps.size], ⟨rfl, .inl ⟨rfl, rfl⟩⟩, .inl ⟨rfl, by simp [Maps.has, hll]⟩, (RowKit.Below.refl _ _).grown hg0 (Nat.le_refl _) (fun j hj => by cases hj)⟩
  case round =>
    obtain ⟨left, cnt, ss, hrg, hcs, hrow, hC, hnx⟩ := hrel
    go_wp2_with (first
      | (at_next; refine wpList_next_ranges _ rfl _ rfl 23 keyedPlace R0 id id (fun key kl hk => ⟨key, rfl⟩) (fun v y hv => ⟨v, rfl⟩) b w.heap.size 1 _ _ _ rfl hrg ?_ ?_)
      | go_in)
    · intro hc0 hl0
      obtain rfl : ss = [Value.pointer q] := by
        rcases hC with ⟨-, h⟩ | h
        · rw [hl0] at h; cases h
        · exact h
      have hrw : ∀ B, BlkSat B wr u3 (.row 1 1 fun _ _ => Value.pointer q) := fun B => by
        rcases hrow.2 with ⟨-, hz⟩ | ⟨g, cap, cur, rfl, hbase, hb, h1, h2, h3, h4⟩
        · cases hz
        · refine ⟨_, cap, rfl, h1, h2, fun i j hi hj => ⟨_, rfl, ?_⟩⟩
          obtain rfl : i = 0 := by omega
          obtain rfl : j = 0 := by omega
          have := hrow.cellAt 0 (by simp)
          simpa [Addr.add] using this
      go_wp2_with (go_at_call 20; refine (sort1 (fun _ _ => Value.pointer q) _ _ _ hrw).mono ?_; rintro e w' ⟨rfl, hbel⟩)
      go_ret
      have hkept := hrow.kept (w' := w') (row := none) ⟨hbel.os, hbel.tape, hbel.output, hbel.size, fun c hc _ => hbel.block c hc⟩ (.inr (by
        rcases hrow.2 with ⟨-, hz⟩ | ⟨g, cap, cur, e, -⟩
        · cases hz
        · rw [e]; simp [Value.ownBlock]))
      exact ⟨_, rfl, hkept, hnx.trans (hbel.mono hnx.size)⟩
    · intro x c kl yd yp w2 cnt2 hkey hlk hv hat hrg2 hlt hg2 hs2 hen
      obtain rfl : c = .pointer q := oneR0 rfl hv (y := (yd, yp)) hat
      obtain rfl : ss = [] := List.length_eq_zero_iff.1 (by omega)
      have hrow2 := hrow.kept hg2 (Or.inr (row_ne_iter hrow hrg).symm)
      clear hs2
      go_wp2_with (first
        | (at_builtin; go_loud (refine wpList_append_own _ rfl _ _ 36 rfl w.heap.size 28 i0 (.pointer none) 1 8 Try.underlying36 hi hz0 hz1 hz2 rfl (by decide) _ _ _ rfl (hrow2.alloc _) ⟨w2.heap.size, 0, none⟩ 1 1 [Value.pointer q] rfl rfl (cell_one_new _ _ _) (by simp [Value.oneCell']) (by unfold maxLen at *; omega) (by omega) (by have := hnx.size; have := hg2.size; simp; omega) ?_); intro v' w3 hown' hg3 hnil3)
        | go_in)
      have hrg3 := (hrg2.alloc _).kept hg3 (row_ne_low hrow2 hbl) (row_ne_iter hrow2 hrg2)
      go_roundw
      case rel =>
        refine ⟨_, cnt2, [Value.pointer q], hrg3, by simp; omega, by simpa using hown', .inr rfl, ?_⟩
        exact ((hnx.grown hg2 hnx.size (fun j hj => by cases hj; exact Nat.le_refl _)).alloc (by have := hnx.size; have := hg2.size; omega) _).grown hg3 (by have := hnx.size; have := hg2.size; simp; omega) (fun j hj => (hrow2.lt j hj).1)
      case measure => rw [hrg3.left_eq, hrg.left_eq]; exact hlt
end Go.Proofs.Ytenngklohffoaaa
