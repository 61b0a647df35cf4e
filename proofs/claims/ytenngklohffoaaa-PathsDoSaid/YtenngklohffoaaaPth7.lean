/- Paths: a path of a row, where the world is told. No conditions. -/
import Derived.Test.YtenngklohffoaaaPth6
import Derived.Deep.RegionHeld3
namespace Go.Proofs.Ytenngklohffoaaa
set_option linter.unusedVariables false
set_option linter.unusedSimpArgs false
open Go.RowKit Sym Go.Maps Go.WideMaps Go.Sort Go.Lib

theorem ftime_at (w : World) : Calls Try.prog 58 #[.int .i64 0] w fun e w' => e = .returned (.int .i64 0) ∧ w' = w := by
  go_enter Try.func58, Try.ntmps58
  go_wp2
  go_ret
  exact ⟨rfl, rfl⟩
theorem ctime_at (w : World) : Calls Try.prog 41 #[.int .i64 0] w fun e w' => e = .returned (.int .i64 0) ∧ w' = w := by
  go_enter Try.func41, Try.ntmps41
  go_wp2
  go_ret
  exact ⟨rfl, rfl⟩
theorem of_at (n : Int) (w : World) : Calls Try.prog 43 #[.int .i64 n] w fun e w' => e = .returned (.int .i64 (Circ.of n)) ∧ w' = w := (circ_of n w).mono fun _ _ ⟨he, hw⟩ => ⟨he, hw.symm⟩
set_option maxRecDepth 100000 in
set_option maxHeartbeats 2000000 in
theorem put_at {base : Nat} {w : World} {c f d k : Nat} (h : CtlB base w c f d k) (hk : k < 3) (hs : base ≤ w.heap.size) (n : Int) : Calls Try.prog 42 #[.pointer (some ⟨f, 0, none⟩), .int .i64 n, .int .i64 0] w fun e w' => e = .returned (.bool true) ∧ CtlB base w' c f d (k + 1) ∧ Below base w w' := by
  obtain ⟨h1, h2⟩ := h.to
  go_enter Try.func42, Try.ntmps42
  go_wp2
  have hd : CtlB base w.drew c f d k := h.below (Below.refl _ _).drew
  have hcell : ∀ w' : World, Below w.heap.size w w' → w'.cell? ⟨f, 0, none⟩ = some (.pointer (some ⟨d, 0, none⟩)) := fun w' hb => (h.below hb).to.2
  have hb0 : Below w.heap.size w w.drew := (Below.refl _ _).drew
  have hb1 : ∀ o, Below w.heap.size w (w.drew.alloc o) := fun o => hb0.alloc (Nat.le_refl _) o
  go_region_held3 (fun w' => w'.cell? ⟨f, 0, none⟩ = some (.pointer (some ⟨d, 0, none⟩)))
    (first | (exact hcell _ hb0) | (exact hcell _ (hb1 _)) | (exact (CtlB.to (by assumption)).2))
    (first
      | (go_at_call 43; refine (of_at _ _).mono ?_; rintro e w1 ⟨rfl, rfl⟩)
      | (go_at_call 58; refine (ftime_at _).mono ?_; rintro e w1 ⟨rfl, rfl⟩)
      | (go_at_call 57; refine (push_at (h.below (hb1 _)) hk (by simp; omega) _).mono ?_; rintro e w1 ⟨rfl, hB1, hbx⟩))
  go_wp2
  go_ret
  refine ⟨rfl, hB1, ?_⟩
  have b0 : Below base w w.drew := (Below.refl _ _).drew
  exact (b0.alloc hs _).trans hbx
theorem ctlB_set {base : Nat} {w : World} {c f d k : Nat} (h : CtlB base w c f d k) (v : Int) : CtlB base (w.setCell ⟨c, 14, none⟩ (.int .i64 v)) c f d k ∧ Below base w (w.setCell ⟨c, 14, none⟩ (.int .i64 v)) := by
  obtain ⟨u, xs, h1, h2, h3⟩ := h.row
  obtain ⟨p, cap, rfl⟩ := row_slice' h2
  obtain ⟨v14, hv14⟩ := h.c14
  obtain ⟨n1, n2, n3⟩ := h.ne
  obtain ⟨hl1, hl2, hl3⟩ := h.low
  have other : ∀ (b j : Nat), ¬ (b = c ∧ j = 14) → (w.setCell ⟨c, 14, none⟩ (.int .i64 v)).cell? ⟨b, j, none⟩ = w.cell? ⟨b, j, none⟩ := fun b j hne => World.cell?_setCell_other (w := w) (a := ⟨c, 14, none⟩) (b := ⟨b, j, none⟩) (v := .int .i64 v) (h := fun e => hne (by injection e with e1 e2 _; exact ⟨e1.symm, e2.symm⟩))
  refine ⟨⟨ctl_swap (p := p) (cap := cap) h.ctl (fun j hj => other c j (fun e => hj e.2)) (other f 0 (fun e => n1 e.1.symm)) ((other d 0 (fun e => n2 e.1.symm)).trans h1), (other d 1 (fun e => n2 e.1.symm)).trans h.most, ?_, ⟨v, World.cell?_setCell_same (w := w) (a := ⟨c, 14, none⟩) (v := .int .i64 v) (h := hv14)⟩, ?_, ⟨_, xs, (other d 0 (fun e => n2 e.1.symm)).trans h1, ?_, h3⟩, h.ne, h.low⟩, ?_⟩
  · rw [frozen?_set]; exact h.fc
  · rw [frozen?_set]; exact h.fd
  · refine h2.kept (row := some c) ⟨rfl, rfl, rfl, by simp, fun j _ hj => heap_setCell_other w ⟨c, 14, none⟩ j _ (fun e => hj (by rw [e]))⟩ ?_
    cases hb : (Value.slice p k cap).ownBlock with
    | none => exact .inl rfl
    | some g => exact .inr fun e => (h3 g hb).1 (by injection e)
  · exact ⟨rfl, rfl, rfl, by simp, fun j hj => heap_setCell_other w ⟨c, 14, none⟩ j _ (by simp; omega)⟩
set_option maxRecDepth 100000 in
set_option maxHeartbeats 2000000 in
theorem sent_at {base : Nat} {w : World} {c f d k : Nat} (h : CtlB base w c f d k) (hk : k < 3) (hs : base ≤ w.heap.size) (n : Int) : Calls Try.prog 28 #[.pointer (some ⟨c, 0, none⟩), .int .i64 n, .int .i64 0] w fun e w' => e = .returned (.bool true) ∧ CtlB base w' c f d (k + 1) ∧ Below base w w' := by
  have hroom := room_at h.ctl
  have hkk : decide ((k : Int) < 3) = true := decide_eq_true (by omega)
  rw [hkk] at hroom
  by_cases hk0 : k = 0
  · go_enter Try.func28, Try.ntmps28
    go_wp2_with (first
      | (go_at_call 24; refine hroom.mono ?_; rintro e w1 ⟨rfl, hb1⟩; have hB1 := h.below hb1; obtain ⟨v14, c14⟩ := hB1.c14; have f14 := hB1.fc; have hc1 := (ctlB_set hB1 0).1.to.1)
      | (go_at_call 39; refine (pipe_at hB1.ctl).mono ?_; rintro e w2 ⟨rfl, rfl⟩; rw [hk0])
      | (go_at_call 41; refine (ctime_at _).mono ?_; rintro e w3 ⟨rfl, rfl⟩)
      | (go_at_call 42; refine (put_at (ctlB_set hB1 0).1 hk (by have := hb1.size; simp; omega) _).mono ?_; rintro e w4 ⟨rfl, hB4, hb4⟩))
    go_ret
    exact ⟨rfl, hB4, ((hb1.mono hs).trans (ctlB_set hB1 0).2).trans hb4⟩
  · have hke : (k : Int) ≠ 0 := by omega
    go_enter Try.func28, Try.ntmps28
    go_wp2_with (first
      | (go_at_call 24; refine hroom.mono ?_; rintro e w1 ⟨rfl, hb1⟩; have hB1 := h.below hb1; have hc1 := hB1.to.1)
      | (go_at_call 39; refine (pipe_at hB1.ctl).mono ?_; rintro e w2 ⟨rfl, rfl⟩)
      | (go_at_call 42; refine (put_at hB1 hk (by have := hb1.size; omega) _).mono ?_; rintro e w4 ⟨rfl, hB4, hb4⟩))
    go_ret
    exact ⟨rfl, hB4, (hb1.mono hs).trans hb4⟩
theorem ctl_newB (w : World) : Calls Try.prog 19 #[.int .i64 0] w fun e w' => ∃ c f d, e = .returned (.pointer (some ⟨c, 0, none⟩)) ∧ CtlB w.heap.size w' c f d 0 ∧ Below w.heap.size w w' := by
  refine (ccnew w).mono ?_
  rintro e w' ⟨B, x, rfl, hx, hm⟩
  obtain ⟨c, hc, gc, cc⟩ := cell_of hm (k := 0) rfl
  obtain ⟨f, hf, gf, cf⟩ := cell_of hm (k := 3) rfl
  obtain ⟨d, hd, gd, cd⟩ := cell_of hm (k := 4) rfl
  obtain ⟨c', vs, e1, e2, e3⟩ := hm.own_at (k := 0) rfl
  obtain ⟨d', vs', e1', e2', e3'⟩ := hm.own_at (k := 4) rfl
  rw [hc] at e1
  rw [hd] at e1'
  simp only [Option.some.injEq, Value.pointer.injEq, Addr.mk.injEq, and_true] at e1 e1'
  subst e1 e1'
  simp only [SV.to, hc, Option.some.injEq] at hx
  subst hx
  simp only [List.not_mem_nil, false_or] at gc gf gd
  have x0 : ExBlk memCc B 0 c := ⟨_, _, rfl, rfl, hc, rfl⟩
  have x3 : ExBlk memCc B 3 f := ⟨_, _, rfl, rfl, hf, rfl⟩
  have x4 : ExBlk memCc B 4 d := ⟨_, _, rfl, rfl, hd, rfl⟩
  refine ⟨c, f, d, rfl, ⟨⟨c, f, d, none, 0, rfl, rfl, cell_p hf (cc 1 _ rfl), cell_c (cc 2 _ rfl), cell_c (cc 3 _ rfl), cell_c (cc 4 _ rfl), cell_c (cc 5 _ rfl), cell_c (cc 6 _ rfl), cell_c (cc 9 _ rfl), cell_c (cc 10 _ rfl), cell_c (cc 11 _ rfl), cell_c (cc 12 _ rfl), cell_p hd (cf 0 _ rfl), cell_c (cd 0 _ rfl)⟩, cell_c (cd 1 _ rfl), e3.2.2 14, ⟨0, cell_c (cc 14 _ rfl)⟩, e3'.2.2 0, ⟨.slice none 0 0, [], cell_c (cd 0 _ rfl), ⟨rfl, .inl ⟨rfl, rfl⟩⟩, fun g hg => by cases hg⟩, ⟨?_, ?_, ?_⟩, ⟨gc, gf, gd⟩⟩, hm.keeps.below⟩
  · rintro rfl; have := hm.sat.sep 0 3 c x0 x3; omega
  · rintro rfl; have := hm.sat.sep 0 4 c x0 x4; omega
  · rintro rfl; have := hm.sat.sep 3 4 f x3 x4; omega
def idx1 : Value → Nat
  | .int _ i => i.toNat
  | _ => 0
set_option maxRecDepth 100000 in
set_option maxHeartbeats 4000000 in
theorem path_any (x y st pr : Int) (se : Nat) (hse : se ≤ 3) (w : World) : Calls Try.prog 17 #[.agg #[.int .i64 x, .int .i64 y, .int .i64 st, .int .i64 pr, .int .i64 se]] w fun e w' =>
    ∃ q : PRow, e = .returned (ptrOf q) ∧ (q.x = x ∧ q.y = y ∧ q.st = st ∧ q.pr = pr ∧ q.se = se) ∧ PathAt w' q ∧ CtlAt w' q.ctl q.se q.F ∧ w.heap.size ≤ q.p ∧ (∀ k ∈ q.F, w.heap.size ≤ k ∧ k ≠ q.p) ∧ Below w.heap.size w w' := by
  have b0 : Below w.heap.size w (w.alloc (Obj.cells #[.int .i64 x, .int .i64 y, .int .i64 st, .int .i64 pr, .int .i64 se] 53)) := (Below.refl _ _).alloc (Nat.le_refl _) _
  have hW := own_new w #[.int .i64 x, .int .i64 y, .int .i64 st, .int .i64 pr, .int .i64 se] 53
  have hWs : w.heap.size < (w.alloc (Obj.cells #[.int .i64 x, .int .i64 y, .int .i64 st, .int .i64 pr, .int .i64 se] 53)).heap.size := by simp
  go_enter Try.func17, Try.ntmps17
  go_wp2_with (go_at_call 19; refine (ctl_newB _).mono ?_; rintro e wa ⟨c, f, d, rfl, hB, hba⟩)
  generalize w.alloc (Obj.cells #[.int .i64 x, .int .i64 y, .int .i64 st, .int .i64 pr, .int .i64 se] 53) = W1 at *
  go_loopw [4] (fun u4 wr => ∃ i : Nat, u4 = .int .i64 i ∧ i ≤ se ∧ CtlB W1.heap.size wr c f d i ∧ Below W1.heap.size W1 wr)
    (fun u4 _ => se - idx1 u4)
  case atStart => exact ⟨0, rfl, Nat.zero_le _, hB, hba⟩
  case round =>
    obtain ⟨i, rfl, hile, hBr, hbr⟩ := hrel
    have hOw := own_below hW hbr
    have g0 := hOw.2.1 0
    have g1 := hOw.2.1 1
    have g2 := hOw.2.1 2
    have g3 := hOw.2.1 3
    have g4 := hOw.2.1 4
    simp only [List.getElem?_toArray, List.getElem?_cons_zero, List.getElem?_cons_succ] at g0 g1 g2 g3 g4
    by_cases hlt : i < se
    · go_wp2_with (go_at_call 28; refine (sent_at hBr (by omega) hbr.size _).mono ?_; rintro e w1 ⟨rfl, hB1, hb1⟩)
      go_roundw
      case rel => exact ⟨i + 1, rfl, hlt, hB1, hbr.trans hb1⟩
      case measure => simp [idx1]; omega
    · go_wp2
      go_ret
      obtain rfl : i = se := by omega
      obtain ⟨l1, l2, l3⟩ := hBr.low
      have t1 := hBr.ctl.lt c (by simp)
      have t2 := hBr.ctl.lt f (by simp)
      have t3 := hBr.ctl.lt d (by simp)
      have b1 : Below w.heap.size w wr := b0.trans (hbr.mono b0.size)
      refine ⟨⟨wr.heap.size, x, y, st, pr, i, .pointer (some ⟨c, 0, none⟩), [c, f, d]⟩, rfl, ⟨rfl, rfl, rfl, rfl, rfl⟩, ?_, hBr.ctl.below ((Below.refl _ _).alloc (Nat.le_refl _) _), b1.size, ?_, b1.alloc b1.size _⟩
      · exact path_new rfl rfl rfl rfl rfl rfl
      · intro k hk
        simp only [List.mem_cons, List.not_mem_nil, or_false] at hk
        have := b0.size
        rcases hk with rfl | rfl | rfl <;> exact ⟨by omega, by show _ ≠ wr.heap.size; omega⟩
end Go.Proofs.Ytenngklohffoaaa
