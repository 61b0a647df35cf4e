/- Paths: all paths of a table, in order. No conditions but what the sort says. -/
import Derived.Test.YtenngklohffoaaaPthN
import Derived.Test.YtenngklohffoaaaPthS
namespace Go.Proofs.Ytenngklohffoaaa
set_option linter.unusedVariables false
set_option linter.unusedSimpArgs false
open Go.RowKit Sym Go.Maps Go.WideMaps Go.Sort Go.Lib Go.Shelf

set_option maxRecDepth 100000 in
theorem sort0_run (f : Nat → Nat → Value) (c : Value) : runO Try.prog (CSo1 Try.prog ⟨Try.f34, Try.f45, Try.f35, Try.f54⟩) noL Try.f20 [.ref 0, .v c] [.row 0 1 f] = .ite false (.ite false (.ite false (.need ((0 : Int) ≤ (0 : Int) ∧ (0 : Int) < (256 : Int)) (.ite true (.ite false (T.stuck 3002) (.leaf (Value.tuple (Array.mk [])))) (.ite false (T.stuck 2046) (T.stuck 2048)))) (.need ((0 : Int) ≤ (0 : Int) ∧ (0 : Int) < (256 : Int)) (.ite true (.ite false (T.stuck 3002) (.leaf (Value.tuple (Array.mk [])))) (.ite false (T.stuck 2046) (T.stuck 2048))))) (.ite false (.need ((0 : Int) ≤ (0 : Int) ∧ (0 : Int) < (256 : Int)) (.ite true (.ite false (T.stuck 3002) (.leaf (Value.tuple (Array.mk [])))) (.ite false (T.stuck 2046) (T.stuck 2048)))) (.need ((0 : Int) ≤ (0 : Int) ∧ (0 : Int) < (256 : Int)) (.ite true (.ite false (T.stuck 3002) (.leaf (Value.tuple (Array.mk [])))) (.ite false (T.stuck 2046) (T.stuck 2048)))))) (.ite false (.ite false (.need ((0 : Int) ≤ (0 : Int) ∧ (0 : Int) < (256 : Int)) (.ite true (.ite false (T.stuck 3002) (.leaf (Value.tuple (Array.mk [])))) (.ite false (T.stuck 2046) (T.stuck 2048)))) (.need ((0 : Int) ≤ (0 : Int) ∧ (0 : Int) < (256 : Int)) (.ite true (.ite false (T.stuck 3002) (.leaf (Value.tuple (Array.mk [])))) (.ite false (T.stuck 2046) (T.stuck 2048))))) (.ite false (.need ((0 : Int) ≤ (0 : Int) ∧ (0 : Int) < (256 : Int)) (.ite true (.ite false (T.stuck 3002) (.leaf (Value.tuple (Array.mk [])))) (.ite false (T.stuck 2046) (T.stuck 2048)))) (.need ((0 : Int) ≤ (0 : Int) ∧ (0 : Int) < (256 : Int)) (.ite true (.ite false (T.stuck 3002) (.leaf (Value.tuple (Array.mk [])))) (.ite true (T.stuck 2046) (T.stuck 2048)))))) := by kernel_rfl
/-- a sort of nothing -/
theorem sort0 (p : Option Addr) (cap : Nat) (hcap : cap ≤ maxLen) (c : Value) (w : World) : Calls Try.prog 20 #[.slice p 0 cap, c] w fun e w' => e = .returned (.tuple #[]) ∧ Below w.heap.size w w' := by
  have hu : ∀ B, BlkSat B w (.slice p 0 cap) (.row 0 1 fun _ _ => undef) := fun B => ⟨p, cap, rfl, Nat.zero_le _, hcap, fun i j hi => by omega⟩
  refine calls_runO (v := .tuple #[]) (both_ok SSo_ok FSo1_ok) follows Try.func20 (by kernel_rfl) (lexAllF_ok (by kernel_rfl)) (noloops (by kernel_rfl)) (sort0_run (fun _ _ => undef) c) ?_ (mem_row (hu _)) rfl
  repeat' (first | (with_reducible refine t_need ?_ ?_) | (with_reducible refine t_ite ?_ ?_; all_goals intro h; all_goals (first | (cases h; done) | skip)) | (with_reducible refine t_leaf ?_))
  all_goals first | rfl | omega | contradiction
theorem ptr_infoP : (Try.prog.info? 28).map (fun i => (i.zero, i.size, i.bytes)) = some (some (.pointer none), 1, 8) := by kernel_rfl
theorem held_inv {v : Value} {y : DataW Value × List MemPlace} (hv : R0 v = some y) : y.1 = .held v := by
  unfold R0 at hv
  rw [Option.some.injEq] at hv
  rw [← hv]
/-- the row of pointers, hidden -/
def Ptrs (w : World) (base : Nat) (u : Value) (ss : List PRow) : Prop := w.ownsRow base 28 1 u ss.length (ss.map ptrOf)
set_option maxRecDepth 100000 in
set_option maxHeartbeats 4000000 in
theorem all_any (hS : SortLaw) {w : World} {tb b : Nat} {L : List PRow} (h : TabAt w tb b L) :
    Calls Try.prog 8 #[.pointer (some ⟨tb, 0, none⟩)] w fun e w' => ∃ u rs, e = .returned u ∧ InOrder L rs ∧ Ptrs w' w.heap.size u rs ∧ Below w.heap.size w w' := by
  obtain ⟨D, hown, hD⟩ := h.map
  obtain ⟨i0, hi, hz0, hz1, hz2⟩ := info_parts ptr_infoP
  have htb := h.tab
  have hsl : tb < w.heap.size := lt_of_cell htb
  have hbl := hown.lt
  have hsz := hD.size
  have hsix := h.six
  go_enter Try.func8, Try.ntmps8
  go_wp2_with (first
    | (at_range; refine wpList_range_own _ rfl _ 62 rfl 23 28 keyedPlace Try.underlying62 _ b L.length _ rfl hown ?_; intro w0 hrg0 hg0 hs0)
    | go_in)
  go_frame
  go_loopw [3] (fun u wr => ∃ (left : Lit → Bool) (cnt : Nat) (ss : List PRow), wr.ranges Try.prog 23 R0 b w.heap.size L.length D left cnt ∧ ss.length + cnt ≤ L.length ∧
      Ptrs wr w.heap.size u ss ∧ Met L left ss ∧ Below w.heap.size w wr)
    (fun _ wr => wr.rangeLeft b w.heap.size)
  case atStart =>
    exact ⟨_, _, [], hrg0, by simp [hsz], ⟨rfl, .inl ⟨rfl, rfl⟩⟩, Met.start hD, (RowKit.Below.refl _ _).grown hg0 (Nat.le_refl _) (fun j hj => by cases hj)⟩
  case round =>
    obtain ⟨left, cnt, ss, hrg, hcs, hrow, hM, hnx⟩ := hrel
    go_wp2_with (first
      | (at_next; refine wpList_next_ranges _ rfl _ rfl 23 keyedPlace R0 id id (fun key kl hk => ⟨key, rfl⟩) (fun v y hv => ⟨v, rfl⟩) b w.heap.size L.length _ _ _ rfl hrg ?_ ?_)
      | go_in)
    · intro hc0 hl0
      have hperm := hM.perm h.ap hl0
      have hap : Apart ss := ⟨fun r hr => h.ap.1 r (hperm.mem_iff.1 hr), (hperm.pairwise_iff (fun {a b} hn he => hn ⟨he.1.symm, he.2.symm⟩)).2 h.ap.2⟩
      rcases hrow.2 with ⟨rfl, hz⟩ | ⟨g, cap, cur, rfl, hbase, hb, h1, h2, h3, h4⟩
      · obtain rfl : ss = [] := List.length_eq_zero_iff.1 hz
        go_wp2_with (go_at_call 20; refine (sort0 _ _ (Nat.zero_le _) _ _).mono ?_; rintro e w' ⟨rfl, hb2⟩)
        go_ret
        exact ⟨_, [], rfl, ⟨hperm, List.Pairwise.nil⟩, ⟨rfl, .inl ⟨rfl, rfl⟩⟩, hnx.trans (hb2.mono hnx.size)⟩
      · by_cases hnil : ss = []
        · subst hnil
          go_wp2_with (go_at_call 20; refine (sort0 _ _ h2 _ _).mono ?_; rintro e w' ⟨rfl, hb2⟩)
          go_ret
          exact ⟨_, [], rfl, ⟨hperm, List.Pairwise.nil⟩, World.ownsRow.kept (row := none) hrow ⟨hb2.os, hb2.tape, hb2.output, hb2.size, fun c hc _ => hb2.block c hc⟩ (.inr (by simp [Value.ownBlock])), hnx.trans (hb2.mono hnx.size)⟩
        · have hc := sort_paths (cap := cap) (W := wr) hS hnil hbase hb h1 h2 h3 (by simpa using h4) (fun r hr => by
            have hr' := hperm.mem_iff.1 hr
            have hpl := (h.path r hr').lt
            exact ⟨(h.path r hr').below hnx, by omega, h.ap.1 r hr'⟩) (by omega) hap
          go_wp2_with (go_at_call 20; refine hc.mono ?_; rintro e w' ⟨rfl, rs, hO, hrow2, hgr⟩)
          go_ret
          have hl : rs.length = ss.length := hO.1.length_eq
          exact ⟨_, rs, rfl, ⟨hO.1.trans hperm, hO.2⟩, by unfold Ptrs; rw [hl]; exact hrow2, hnx.grown hgr hnx.size (fun j hj => by cases hj; exact hbase)⟩
    · intro x c kl yd yp w2 cnt2 hkey hlk hv hat hrg2 hlt hg2 hs2 hen
      have hy := held_inv hv
      obtain ⟨r, hr, rfl, hcp⟩ := hD.inv (kl := kl) (v := c) (fun zd => (hat zd).trans hy)
      have hcq : c = Value.pointer (some ⟨r.p, 0, none⟩) := hcp
      clear hcp hy
      subst hcq
      have hrow' : wr.ownsRow w.heap.size 28 1 _ ss.length (ss.map ptrOf) := hrow
      have hrow2 := hrow'.kept hg2 (Or.inr (row_ne_iter hrow' hrg).symm)
      clear hs2
      go_wp2_with (first
        | (at_builtin; go_loud (refine wpList_append_own _ rfl _ _ 36 rfl w.heap.size 28 i0 (.pointer none) 1 8 Try.underlying36 hi hz0 hz1 hz2 rfl (by decide) _ _ _ rfl (hrow2.alloc _) ⟨w2.heap.size, 0, none⟩ 1 1 [Value.pointer (some ⟨r.p, 0, none⟩)] rfl rfl (cell_one_new _ _ _) (by simp [Value.oneCell']) (by unfold maxLen at *; omega) (by omega) (by have := hnx.size; have := hg2.size; simp; omega) ?_); intro v' w3 hown' hg3 hnil3)
        | go_in)
      have hrg3 := (hrg2.alloc _).kept hg3 (row_ne_low hrow2 hbl) (row_ne_iter hrow2 hrg2)
      go_roundw
      case rel =>
        refine ⟨_, cnt2, ss ++ [r], hrg3, by simp; omega, ?_, hM.step h.ap hr hlk, ?_⟩
        · unfold Ptrs; rw [List.map_append, List.length_append]; exact hown'
        · exact ((hnx.grown hg2 hnx.size (fun j hj => by cases hj; exact Nat.le_refl _)).alloc (by have := hnx.size; have := hg2.size; omega) _).grown hg3 (by have := hnx.size; have := hg2.size; simp; omega) (fun j hj => (hrow2.lt j hj).1)
      case measure => rw [hrg3.left_eq, hrg.left_eq]; exact hlt
end Go.Proofs.Ytenngklohffoaaa
