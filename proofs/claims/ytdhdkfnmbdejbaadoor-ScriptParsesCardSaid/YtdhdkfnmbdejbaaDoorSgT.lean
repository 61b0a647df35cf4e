/- The statement on feeds, walked. No conditions but that the library's table reads as it is laid. -/
import Derived.Test.YtdhdkfnmbdejbaaDoorSgS
namespace Go.Proofs.YtdhdkfnmbdejbaaDoor
set_option linter.unusedVariables false
set_option linter.unusedSimpArgs false
open Go.RowKit

/-- behind so many lines that came out -/
structure L2 (w : World) (k a b c R B B2 : Nat) (cl : Bool) (want : Value) (ws : List ByteArray) (got : Value) (i : Nat) (wx : World) : Prop where
  feed : ∃ U P, FeedAt wx k a b c R U P cl ∧ U ++ P = ws.drop i
  row : wx.ownsRow B 9 1 want ws.length (ws.map Value.string)
  own : wx.ownsRow B2 9 1 got i ((ws.take i).map Value.string)
  bel : Below w.heap.size w wx
  lt : ∀ j, want.ownBlock = some j → j < B2
  sz : B2 ≤ wx.heap.size
theorem L2.next {w wx : World} {k a b c R B B2 i : Nat} {cl : Bool} {want got : Value} {ws : List ByteArray} {s : ByteArray} (hle : w.heap.size ≤ a ∧ w.heap.size ≤ b ∧ w.heap.size ≤ c) (h : L2 w k a b c R B B2 cl want ws got i wx) (hi : i < ws.length) (hs : ws[i] = s) :
    Calls Tryd.prog 17 #[.pointer (some ⟨k, 0, none⟩)] wx fun e w' => e = .returned (.tuple #[.string s, .bool true]) ∧ (∃ U P, FeedAt w' k a b c R U P cl ∧ U ++ P = ws.drop (i + 1)) ∧ w'.ownsRow B 9 1 want ws.length (ws.map Value.string) ∧ w'.ownsRow B2 9 1 got i ((ws.take i).map Value.string) ∧ Below w.heap.size w w' ∧ B2 ≤ w'.heap.size := by
  obtain ⟨U, P, hF0, hd⟩ := h.feed
  rw [List.drop_eq_getElem_cons hi, hs] at hd
  obtain ⟨n1, n2, n3⟩ := next_all hd
  have hn := next_at hF0
  rw [n1, n2] at hn
  exact hn.mono fun e w' ⟨he, hF, ht⟩ => ⟨he, ⟨_, _, hF, n3⟩, row_tch hF0 ht h.row, row_tch hF0 ht h.own, h.bel.trans (ht.below hle.1 hle.2.1 hle.2.2), by rw [ht.size]; exact h.sz⟩
theorem L2.last {w wx : World} {k a b c R B B2 : Nat} {cl : Bool} {want got : Value} {ws : List ByteArray} (hle : w.heap.size ≤ a ∧ w.heap.size ≤ b ∧ w.heap.size ≤ c) (h : L2 w k a b c R B B2 cl want ws got ws.length wx) :
    Calls Tryd.prog 17 #[.pointer (some ⟨k, 0, none⟩)] wx fun e w' => e = .returned (.tuple #[.string ⟨#[]⟩, .bool false]) ∧ FeedAt w' k a b c R [] [] cl ∧ w'.ownsRow B 9 1 want ws.length (ws.map Value.string) ∧ w'.ownsRow B2 9 1 got ws.length (ws.map Value.string) ∧ Below w.heap.size w w' := by
  obtain ⟨U, P, hF0, hd⟩ := h.feed
  rw [List.drop_length, List.append_eq_nil_iff] at hd
  obtain ⟨rfl, rfl⟩ := hd
  have ho := h.own
  rw [List.take_length] at ho
  exact (next_at hF0).mono fun e w' ⟨he, hF, ht⟩ => ⟨he, hF, row_tch hF0 ht h.row, row_tch hF0 ht ho, h.bel.trans (ht.below hle.1 hle.2.1 hle.2.2)⟩
/-- one line more is kept -/
theorem L2.step {w w4 w5 : World} {o : Obj} {k a b c R B B2 i : Nat} {cl : Bool} {want got g' : Value} {ws : List ByteArray} {s : ByteArray} (hB : k < B2 ∧ a < B2 ∧ b < B2 ∧ c < B2) (hw : w.heap.size ≤ B2) (hlt : ∀ j, want.ownBlock = some j → j < B2) (hi : i < ws.length) (hs : ws[i] = s)
    (hF : ∃ U P, FeedAt w4 k a b c R U P cl ∧ U ++ P = ws.drop (i + 1)) (hrow : w4.ownsRow B 9 1 want ws.length (ws.map Value.string)) (hown : w4.ownsRow B2 9 1 got i ((ws.take i).map Value.string)) (hb : Below w.heap.size w w4) (hsz : B2 ≤ w4.heap.size)
    (hg : (w4.alloc o).grownBy w5 got.ownBlock) (hown' : w5.ownsRow B2 9 1 g' (i + 1) ((ws.take i).map Value.string ++ [.string s])) : L2 w k a b c R B B2 cl want ws g' (i + 1) w5 := by
  obtain ⟨U, P, hF, hd⟩ := hF
  refine ⟨⟨U, P, hF.append hB hown hg, hd⟩, row_append hrow hlt hown hg, ?_, (hb.alloc hb.size o).grown hg (by rw [World.size_alloc]; have := hb.size; omega) (fun j hj => by have := (hown.lt j hj).1; omega), hlt, by have := hg.size; rw [World.size_alloc] at this; omega⟩
  rw [list_take_succ hi, List.map_append, hs]
  exact hown'
theorem wrapS {n : Nat} (h : n ≤ 1000) : wrap64 ((n : Int) + 1) = (n : Int) + 1 := IntWalk.wrap64_in _ ⟨by omega, by omega⟩
set_option maxRecDepth 100000 in
set_option maxHeartbeats 16000000 in
theorem feeds_any {w : World} {v : Value} {ls : List ByteArray} (most closes : Int) (hT : TxtAt w v ls) (ht : TabW w) : Calls Tryd.prog 5 #[.int .i64 most, v, .int .i64 closes] w fun e w' => e = .returned (.bool true) ∧ Below w.heap.size w w' := by
  obtain ⟨p, cap, rfl, hcap, hmax, hcell⟩ := hT
  have hT : TxtAt w (.slice p ls.length cap) ls := ⟨p, cap, rfl, hcap, hmax, hcell⟩
  have hwk := works_any w ht
  by_cases h300 : (300 : Int) < (ls.length : Int)
  · go_enter Tryd.func5, Tryd.ntmps5
    go_wp2_with (go_at_call 6; (with_reducible refine hwk.mono ?_); rintro e w1 ⟨rfl, hb1⟩)
    go_ret
    exact ⟨rfl, hb1⟩
  · obtain ⟨i0, hi0, hz0, hz1, hz2⟩ := info_parts str_infoP
    obtain ⟨R, hR⟩ : ∃ R, roomN most = R := ⟨_, rfl⟩
    obtain ⟨N, hN⟩ : ∃ N : Nat, min (max closes 0) (ls.length : Int) = (N : Int) := ⟨(min (max closes 0) (ls.length : Int)).toNat, by omega⟩
    have hNl : N ≤ ls.length := by omega
    have hr : min (max most 1) 100 = (R : Int) := by rw [← hR]; unfold roomN; split <;> (try split) <;> omega
    have hRl : R ≤ 100 := by omega
    have hnew := fun W => new_any most W
    rw [hR] at hnew
    have hsl := fun W => sl_head p ls.length cap N hNl hcap W
    go_enter Tryd.func5, Tryd.ntmps5
    go_wp2_with (first
      | (go_at_call 6; (with_reducible refine hwk.mono ?_); rintro e w1 ⟨rfl, hb1⟩)
      | (go_at_call 12; (with_reducible refine (hnew _).mono ?_); rintro e w2 ⟨⟨k, a, b, c, rfl, hlt, hF⟩, hb2⟩; have hbb2 := hb1.trans (hb2.mono hb1.size); have hor := order_any (n := R) (by omega) ((hT.below hbb2).take N hNl))
      | (go_at_call 13; (with_reducible refine hor.mono ?_); rintro e w3 ⟨want, rfl, hrow, hb3⟩))
    have hle : w.heap.size ≤ a ∧ w.heap.size ≤ b ∧ w.heap.size ≤ c := by have := hb1.size; omega
    have hbb3 := hbb2.trans (hb3.mono hbb2.size)
    have hF3 := hF.below hb3
    have hK3 := hF3.lt
    obtain ⟨ws, hws⟩ : ∃ ws, (waitL R (ls.take N)).1 ++ (waitL R (ls.take N)).2 = ws := ⟨_, rfl⟩
    rw [hws] at hrow
    have hwl : cntL R N ls N = ws.length := by rw [← hws, List.length_append]; unfold cntL; rw [show min N N = N by omega]
    have hw200 : ws.length ≤ 200 := by have := cntL_le R N ls N; omega
    have h1 : L1 w w3 k a b c R N ls w2.heap.size want ws 0 w3 := ⟨by rw [show min 0 N = 0 by omega, decide_eq_false (show ¬ N < 0 by omega)]; exact hF3, hrow, hbb3, rfl⟩
    obtain ⟨pw, cw, rfl⟩ := row_slice hrow
    clear hor hF hF3 hrow hlt hb2 hb3 hbb3 hb1 hnew hN hr hsl hwk hR
    have hcnt := cntL_le R N ls
    go_loopg [11, 12] ls.length (fun gf u11 u12 wx => ∃ i : Nat, u12 = .int .i64 i ∧ u11 = .int .i64 (cntL R N ls i : Int) ∧ i ≤ ls.length ∧ ls.length ≤ i + gf ∧ L1 w w3 k a b c R N ls w2.heap.size (.slice pw ws.length cw) ws i wx)
    case atStart => exact ⟨0, rfl, rfl, Nat.zero_le _, by omega, h1⟩
    case round =>
      obtain ⟨i, rfl, rfl, hi, hfu, hL⟩ := hrel
      by_cases hlt : i < ls.length
      · obtain ⟨g', rfl⟩ : ∃ g', gk = g' + 1 := ⟨gk - 1, by omega⟩
        have hi0 : (i : Int) < (ls.length : Int) := by omega
        obtain ⟨ad, rfl, hc, hsp⟩ := hcell i hlt
        obtain ⟨ab, ao, sp⟩ := ad
        obtain rfl : sp = none := hsp
        have hc1 : wr.cell? ⟨ab, ao + i, none⟩ = some (.string ls[i]) := (hL.bel.cell (p := ⟨ab, ao + i, none⟩) (lt_of_cell' hc)).trans hc
        have hk2 : i + 1 ≤ ls.length ∧ ls.length ≤ i + 1 + g' := ⟨hlt, by omega⟩
        have hci := hcnt i
        have hcs := hcnt (i + 1)
        obtain ⟨l, hl⟩ : ∃ l, ls[i] = l := ⟨_, rfl⟩
        rw [hl] at hc1
        have hc0 : w.cell? ⟨ab, ao + i, none⟩ = some (.string l) := by rw [← hl]; exact hc
        by_cases h1000 : (1000 : Int) < (l.size : Int)
        · have hbl := hL.bel
          clear hL hcnt hcell
          go_wp2
          go_ret
          exact ⟨rfl, hbl⟩
        · by_cases hiN : i = N
          · subst hiN
            have hO := hL.open_ (Nat.le_refl _)
            have hsame := cntL_same R i ls
            obtain ⟨m, hm⟩ : ∃ m, cntL R i ls i = m := ⟨_, rfl⟩
            rw [hm] at hsame ⊢
            clear hL hcnt hcell hc hci hcs hfu hi hw200 hwl
            go_wp2_with (first
              | (go_at_call 14; (with_reducible refine (hO.close hle).mono ?_); rintro e w4 ⟨rfl, hO2, hL4⟩)
              | (go_at_call 14; (with_reducible refine (hO2.close hle).mono ?_); rintro e w5 ⟨rfl, hO5, hL5⟩; have hc5 : w5.cell? ⟨ab, ao + i, none⟩ = some (.string l) := (hL5.bel.cell (p := ⟨ab, ao + i, none⟩) (lt_of_cell' hc0)).trans hc0; have hpt := L1c.put (l := l) hle hL5)
              | (go_at_call 15; (with_reducible refine hpt.mono ?_); rintro e w6 ⟨rfl, hL6⟩))
            go_roundg g'
            case measure => exact Nat.lt_succ_self _
            case rel => exact ⟨i + 1, by first | rfl | rw [wrap_succ hlt hcap hmax], by rw [hsame], hk2.1, hk2.2, hL6⟩
          · obtain ⟨ok, hct, hpt⟩ := hL.put hle hlt (by omega : i < N ∨ N < i) hl
            have hii : ((i : Int) == (N : Int)) = false := by rw [beq_eq_false_iff_ne]; omega
            have hmb : cntL R N ls i ≤ 1000 := Nat.le_trans hci (by omega)
            obtain ⟨m, hm⟩ : ∃ m, cntL R N ls i = m := ⟨_, rfl⟩
            rw [hm] at hct hmb ⊢
            clear hL hcnt hcell hc hci hcs hfu hi hw200 hwl hiN
            cases ok with
            | false =>
              go_wp2_with (first
                | (go_at_call 15; (with_reducible refine hpt.mono ?_); rintro e w6 ⟨rfl, hL6⟩))
              go_roundg g'
              case measure => exact Nat.lt_succ_self _
              case rel => exact ⟨i + 1, by first | rfl | rw [wrap_succ hlt hcap hmax], by rw [hct]; rfl, hk2.1, hk2.2, hL6⟩
            | true =>
              go_wp2_with (first
                | (go_at_call 15; (with_reducible refine hpt.mono ?_); rintro e w6 ⟨rfl, hL6⟩))
              go_roundg g'
              case measure => exact Nat.lt_succ_self _
              case rel => exact ⟨i + 1, by first | rfl | rw [wrap_succ hlt hcap hmax], by rw [hct]; first | rfl | (rw [wrapS hmb]; rfl), hk2.1, hk2.2, hL6⟩
      · obtain rfl : i = ls.length := by omega
        have hce : cntL R N ls ls.length = ws.length := by
          rw [← hwl]
          unfold cntL
          rw [show min ls.length N = N by omega, show min N N = N by omega]
        have hlf := hL.left hRl
        rw [hce] at hlf ⊢
        have hnn : (((ws.length : Int)) != (ws.length : Int)) = false := by simp
        have hmN : min ls.length N = N := by omega
        rw [hmN] at hlf
        obtain ⟨cl, hcl⟩ : ∃ cl, decide (N < ls.length) = cl := ⟨_, rfl⟩
        rw [hcl] at hlf
        have hF0 := hL.feed
        have hrow0 := hL.row
        have hbl0 := hL.bel
        have hsz0 := hL.size
        have hlt0 := hrow0.lt
        clear hL hcnt hcell hT
        go_wp2_with (first
          | (go_at_call 16; (with_reducible refine hlf.mono ?_); rintro e w4 ⟨rfl, hF4, ht4⟩))
        have hrow4 := row_tch hF0 ht4 hrow0
        have hbl4 := hbl0.trans (ht4.below hle.1 hle.2.1 hle.2.2)
        have h2 : L2 w k a b c R w2.heap.size w4.heap.size cl (.slice pw ws.length cw) ws (.slice none 0 0) 0 w4 := ⟨⟨_, _, hF4, hws⟩, hrow4, World.ownsRow_nil _ _ _ _, hbl4, fun j hj => (hrow4.lt j hj).2, Nat.le_refl _⟩
        have hB : k < w4.heap.size ∧ a < w4.heap.size ∧ b < w4.heap.size ∧ c < w4.heap.size := hF4.lt
        have hwB : w.heap.size ≤ w4.heap.size := hbl4.size
        have hltw : ∀ j, (Value.slice pw ws.length cw).ownBlock = some j → j < w4.heap.size := h2.lt
        clear hF0 hrow0 hbl0 hsz0 hlt0 hF4 ht4 hrow4 hbl4 hlf
        generalize w4.heap.size = B2 at *
        go_loopg [13, 14] ws.length (fun gf u13 u14 wx => ∃ j : Nat, u14 = .int .i64 j ∧ j ≤ ws.length ∧ ws.length ≤ j + gf ∧ L2 w k a b c R w2.heap.size B2 cl (.slice pw ws.length cw) ws u13 j wx)
        case atStart => exact ⟨0, rfl, Nat.zero_le _, by omega, h2⟩
        case round =>
          obtain ⟨j, rfl, hj, hfj, hL2⟩ := hrel
          by_cases hjl : j < ws.length
          · obtain ⟨g', rfl⟩ : ∃ g', gk = g' + 1 := ⟨gk - 1, by omega⟩
            have hj0 : (j : Int) < (ws.length : Int) := by omega
            have hk2 : j + 1 ≤ ws.length ∧ ws.length ≤ j + 1 + g' := ⟨hjl, by omega⟩
            have hj200 : j < 200 := by omega
            obtain ⟨s, hs⟩ : ∃ s, ws[j] = s := ⟨_, rfl⟩
            have hnx := hL2.next hle hjl hs
            clear hL2 h2 h1
            go_wp2_with (first
              | (go_at_call 17; (with_reducible refine hnx.mono ?_); rintro e w5 ⟨rfl, hF5, hr5, ho5, hb5, hs5⟩)
              | (at_builtin; go_loud (refine wpList_append_lies _ rfl _ _ 32 rfl B2 9 i0 (.string ⟨#[]⟩) 1 16 Tryd.underlying32 hi0 hz0 hz1 hz2 rfl (by decide) _ _ _ rfl (ho5.alloc _) ⟨w5.heap.size, 0, none⟩ 1 1 [Value.string s] rfl rfl (cells_new w5 _ _) (by simp [Value.oneCell']) (by decide) (by unfold maxLen; omega) (by omega) (by simp; omega) (w5.heap.size + 1) (by simp) ?_); intro g cg w6 hown' hg3 hat hgl))
            go_roundg g'
            case measure => exact Nat.lt_succ_self _
            case rel => exact ⟨j + 1, rfl, hk2.1, hk2.2, L2.step hB hwB hltw hjl hs hF5 hr5 ho5 hb5 hs5 hg3 hown'⟩
          · obtain rfl : j = ws.length := by omega
            have hnx := hL2.last hle
            clear hL2 h2 h1 hwl hce
            go_wp2_with (first
              | (go_at_call 17; (with_reducible refine hnx.mono ?_); rintro e w5 ⟨rfl, hF5, hr5, ho5, hb5⟩; have hss := strings_same (own_txt ho5) (own_txt hr5))
              | (go_at_call 14; (with_reducible refine (close_nil _).mono ?_); rintro e w6 ⟨rfl, hw⟩; obtain rfl := hw)
              | (go_at_call 17; (with_reducible refine (next_nil _).mono ?_); rintro e w6 ⟨rfl, hw⟩; obtain rfl := hw)
              | (go_at_call 18; (with_reducible refine hss.mono ?_); rintro e w7 ⟨rfl, hb7⟩; have hF7 := hF5.below hb7; have hlf := left_at hF7 (by decide); have hb75 := hb5.trans (hb7.mono hb5.size))
              | (go_at_call 16; (with_reducible refine hlf.mono ?_); rintro e w8 ⟨rfl, hF8, ht8⟩; have hb8 := hb75.trans (ht8.below hle.1 hle.2.1 hle.2.2))
              | (go_at_call 15; (with_reducible refine (put_nil _ _).mono ?_); rintro e w6 ⟨rfl, hw⟩; obtain rfl := hw)
              | (go_at_call 16; (with_reducible refine (left_nil _).mono ?_); rintro e w6 ⟨rfl, hw⟩; obtain rfl := hw))
            go_ret
            exact ⟨rfl, hb8⟩
end Go.Proofs.YtdhdkfnmbdejbaaDoor
