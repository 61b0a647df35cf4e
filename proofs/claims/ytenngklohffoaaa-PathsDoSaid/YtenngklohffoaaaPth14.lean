/- Paths: whatever comes and goes: the law's loop. No conditions. -/
import Derived.Test.YtenngklohffoaaaPth17
import Derived.Test.YtenngklohffoaaaPth11
import Derived.Test.YtenngklohffoaaaPth9
import Derived.Test.YtenngklohffoaaaPth7
import Derived.Test.YtenngklohffoaaaPth2
namespace Go.Proofs.Ytenngklohffoaaa
set_option linter.unusedVariables false
set_option linter.unusedSimpArgs false
open Go.RowKit Sym Go.Maps Go.WideMaps Go.Sort Go.Lib Go.Shelf

/-- an act of the law -/
structure OpR where
  kd : Int
  x : Int
  y : Int
  st : Int
  pr : Int
  se : Int
def OpAt (w : World) (a : Addr) (i : Nat) (o : OpR) : Prop :=
  w.cell? (a.add (i * 6)) = some (.int .i64 o.kd) ∧ w.cell? ⟨(a.add (i * 6)).block, (a.add (i * 6)).off + 1, none⟩ = some (.int .i64 o.x) ∧ w.cell? ⟨(a.add (i * 6)).block, (a.add (i * 6)).off + 2, none⟩ = some (.int .i64 o.y) ∧ w.cell? ⟨(a.add (i * 6)).block, (a.add (i * 6)).off + 3, none⟩ = some (.int .i64 o.st) ∧
    w.cell? ⟨(a.add (i * 6)).block, (a.add (i * 6)).off + 4, none⟩ = some (.int .i64 o.pr) ∧ w.cell? ⟨(a.add (i * 6)).block, (a.add (i * 6)).off + 5, none⟩ = some (.int .i64 o.se)
theorem row_five {w : World} {B : Nat} {x0 x1 x2 x3 x4 : Value} (h : Own w B #[x0, x1, x2, x3, x4]) : w.cell? ⟨B, 0, none⟩ = some x0 ∧ w.cell? ⟨B, 1, none⟩ = some x1 ∧ w.cell? ⟨B, 2, none⟩ = some x2 ∧ w.cell? ⟨B, 3, none⟩ = some x3 ∧ w.cell? ⟨B, 4, none⟩ = some x4 :=
  ⟨h.2.1 0, h.2.1 1, h.2.1 2, h.2.1 3, h.2.1 4⟩
theorem find_pv {L : List PRow} (hap : Apart L) {x y : Int} (hx : wf64 x) (hy : wf64 y) : ∃ pv : Value, (∀ (w : World) (tb b : Nat), TabAt w tb b L → Calls Try.prog 7 #[.pointer (some ⟨tb, 0, none⟩), .agg #[.int .i64 x, .int .i64 y]] w fun e w' => e = .returned pv ∧ Below w.heap.size w w') ∧
    ∀ r ∈ L, r.x = x ∧ r.y = y → pv = .pointer (some ⟨r.p, 0, none⟩) := by
  refine ⟨match look L x y with | some r => ptrOf r | none => .pointer none, fun w tb b h => find_any h hx hy, fun r hr hm => ?_⟩
  cases hl : look L x y with
  | none => exact absurd hm (look_none hl r hr)
  | some r' =>
    obtain ⟨h1, h2, h3⟩ := look_mem hl
    rw [apart_unique hap hr h1 ⟨hm.1.trans h2.symm, hm.2.trans h3.symm⟩]
    rfl
theorem mod4 (z : Int) : ∃ se : Nat, IntKind.i64.wrap ((IntKind.u64.wrap z).tmod 4) = se ∧ se ≤ 3 := by
  have h0 : 0 ≤ IntKind.u64.wrap z := by
    show 0 ≤ z % 18446744073709551616
    omega
  have h1 : (IntKind.u64.wrap z).tmod 4 = IntKind.u64.wrap z % 4 := Int.tmod_eq_emod_of_nonneg h0
  rw [h1, w64 _ (by omega) (by omega)]
  exact ⟨(IntKind.u64.wrap z % 4).toNat, by omega, by omega⟩
set_option maxRecDepth 100000 in
set_option maxHeartbeats 8000000 in
theorem pathsDo_any {w : World} {p : Option Addr} {n cap : Nat} (hops : ∀ i, i < n → ∃ a o, p = some a ∧ OpAt w a i o ∧ wf64 o.x ∧ wf64 o.y) (hn : n ≤ maxLen) :
    Calls Try.prog 4 #[.slice p n cap] w fun e w' => e = .returned (.bool true) ∧ Below w.heap.size w w' := by
  by_cases h100 : n ≤ 100
  · go_enter Try.func4, Try.ntmps4
    go_wp2_with (first
      | (go_at_call 5; refine (works30 _).mono ?_; rintro e w1 ⟨rfl, hb1⟩)
      | (go_at_call 13; refine (newPt _).mono ?_; rintro e w2 ⟨rfl, rfl⟩; have hT := newTab w1))
    have hb2 : Below w.heap.size w ((w1.alloc (.map #[] 0)).alloc (.cells #[.map (some w1.heap.size)] 64)) := (hb1.alloc hb1.size _).alloc (by have := hb1.size; simp; omega) _
    have hH : Here w (w1.heap.size + 1) w1.heap.size (.slice none 0 0) [] ((w1.alloc (.map #[] 0)).alloc (.cells #[.map (some w1.heap.size)] 64)) :=
      ⟨⟨hT, (fun r hr => absurd hr (by simp))⟩, ⟨rfl, .inl ⟨rfl, rfl⟩⟩, ⟨List.Pairwise.nil, (fun r hr => absurd hr (by simp)), (fun r hr => absurd hr (by simp)), (fun r hr => absurd hr (by simp))⟩, (fun g hg => by cases hg), ⟨Nat.le_trans hb1.size (Nat.le_succ _), hb1.size, (fun r hr => absurd hr (by simp))⟩, hb2⟩
    generalize hW : (w1.alloc (.map #[] 0)).alloc (.cells #[.map (some w1.heap.size)] 64) = W at *
    generalize w1.heap.size = b at *
    clear hT hW hb2
    go_loopw [4, 5] (fun u4 u5 wr => ∃ (i : Nat) (L : List PRow), u5 = .int .i64 i ∧ i ≤ n ∧ Here w (b + 1) b u4 L wr)
      (fun _ u5 _ => n - idxV u5)
    case atStart => exact ⟨0, [], rfl, Nat.zero_le _, hH⟩
    case round =>
      obtain ⟨i, L, rfl, hi, hh⟩ := hrel
      by_cases hli : i < n
      · obtain ⟨a, o, rfl, hO, hwx, hwy⟩ := hops i hli
        obtain ⟨o0, o1, o2, o3, o4, o5⟩ := hO
        have q0 := old_cell hh.bel o0
        have q1 := old_cell hh.bel o1
        have q2 := old_cell hh.bel o2
        have q3 := old_cell hh.bel o3
        have q4 := old_cell hh.bel o4
        have q5 := old_cell hh.bel o5
        clear hops o0 o1 o2 o3 o4 o5
        have hO1 := own_new wr #[.int .i64 o.kd, .int .i64 o.x, .int .i64 o.y, .int .i64 o.st, .int .i64 o.pr, .int .i64 o.se] 50
        have hV := hh.below ((Below.refl _ _).alloc (Nat.le_refl _) (.cells #[.int .i64 o.kd, .int .i64 o.x, .int .i64 o.y, .int .i64 o.st, .int .i64 o.pr, .int .i64 o.se] 50))
        obtain ⟨se, hse, hse3⟩ := mod4 o.se
        have hB2 : ∀ o1 o2 : Obj, Below wr.heap.size wr ((wr.alloc o1).alloc o2) := fun o1 o2 => ((Below.refl _ _).alloc (Nat.le_refl _) o1).alloc (by simp) o2
        by_cases k0 : o.kd = 0
        · rw [k0] at q0
          go_wp2_with (first
            | (go_at_call 16; refine (ladd_any (base := w.heap.size) ⟨0, o.x, o.y, o.st, o.pr, se, .pointer none, []⟩ hh.full.tab.six (Nat.le_trans hh.bel.size (hB2 _ _).size) (row_below hh.rows (hB2 _ _))).mono ?_; rintro e w3 ⟨u', rfl, hr3, hu3, hb3⟩; obtain ⟨z0, z1, z2, z3, z4⟩ := row_five (own_below (own_new _ #[.int .i64 o.x, .int .i64 o.y, .int .i64 o.st, .int .i64 o.pr, .int .i64 se] 53) hb3); simp only [World.size_alloc] at z0 z1 z2 z3 z4)
            | (go_at_call 17; refine (path_any _ _ _ _ se hse3 _).mono ?_; rintro e w4 ⟨q, rfl, ⟨rx, ry, rst, rpr, rse⟩, hp4, hc4, hpl, hF4, hb4⟩)
            | (go_at_call 6; go_loud (refine (add_any (q := q) ((((hh.full.tab.below (hB2 _ _)).below hb3)).below hb4) hp4 (rx ▸ hwx) (ry ▸ hwy) ?_).mono ?_); (have h9 := hh.full.tab.ltb; have h8 := (hB2 (Obj.cells #[] 0) (Obj.cells #[] 0)).size; have h7 := hb3.size; simp only [World.size_alloc] at h7; omega); rintro e w5 ⟨rfl, hk5, hT5⟩; have hEE := addE_same (L := L) (q := q) (qq := ⟨0, o.x, o.y, o.st, o.pr, se, .pointer none, []⟩) rx ry; rw [hEE]; have hh5 := here_add hh (hB2 _ _) hr3 hu3 hb3 hb4 hp4 hc4 hpl hF4 hk5 hT5 (by unfold rowV; rw [rx, ry, rst, rpr, rse]))
            | (go_at_call 18; refine (shown_any sortLaw hh5.full hh5.rows).mono ?_; rintro e w6 ⟨rfl, hb6⟩))
          go_roundw
          case rel => exact ⟨i + 1, addL L q, rfl, hli, hh5.below hb6⟩
          case measure => simp [idxV]; omega
        · by_cases k1 : o.kd = 1
          · rw [k1] at q0
            go_wp2_with (first
              | (go_at_call 16; refine (ladd_any (base := w.heap.size) ⟨0, o.x, o.y, o.st, o.pr, se, .pointer none, []⟩ hh.full.tab.six (Nat.le_trans hh.bel.size (hB2 _ _).size) (row_below hh.rows (hB2 _ _))).mono ?_; rintro e w3 ⟨u', rfl, hr3, hu3, hb3⟩; obtain ⟨z0, z1, z2, z3, z4⟩ := row_five (own_below (own_new _ #[.int .i64 o.x, .int .i64 o.y, .int .i64 o.st, .int .i64 o.pr, .int .i64 se] 53) hb3); simp only [World.size_alloc] at z0 z1 z2 z3 z4)
              | (go_at_call 17; refine (path_any _ _ _ _ se hse3 _).mono ?_; rintro e w4 ⟨q, rfl, ⟨rx, ry, rst, rpr, rse⟩, hp4, hc4, hpl, hF4, hb4⟩)
              | (go_at_call 6; go_loud (refine (add_any (q := q) ((((hh.full.tab.below (hB2 _ _)).below hb3)).below hb4) hp4 (rx ▸ hwx) (ry ▸ hwy) ?_).mono ?_); (have h9 := hh.full.tab.ltb; have h8 := (hB2 (Obj.cells #[] 0) (Obj.cells #[] 0)).size; have h7 := hb3.size; simp only [World.size_alloc] at h7; omega); rintro e w5 ⟨rfl, hk5, hT5⟩; have hEE := addE_same (L := L) (q := q) (qq := ⟨0, o.x, o.y, o.st, o.pr, se, .pointer none, []⟩) rx ry; rw [hEE]; have hh5 := here_add hh (hB2 _ _) hr3 hu3 hb3 hb4 hp4 hc4 hpl hF4 hk5 hT5 (by unfold rowV; rw [rx, ry, rst, rpr, rse]))
              | (go_at_call 18; refine (shown_any sortLaw hh5.full hh5.rows).mono ?_; rintro e w6 ⟨rfl, hb6⟩))
            go_roundw
            case rel => exact ⟨i + 1, addL L q, rfl, hli, hh5.below hb6⟩
            case measure => simp [idxV]; omega
          · by_cases k2 : o.kd = 2
            · rw [k2] at q0 hV hO1
              have hVb : Below wr.heap.size wr (wr.alloc (.cells #[.int .i64 2, .int .i64 o.x, .int .i64 o.y, .int .i64 o.st, .int .i64 o.pr, .int .i64 o.se] 50)) := (Below.refl _ _).alloc (Nat.le_refl _) _
              have h6 := hh.full.tab.six
              have hB0 : wr.heap.size < (wr.alloc (.cells #[.int .i64 2, .int .i64 o.x, .int .i64 o.y, .int .i64 o.st, .int .i64 o.pr, .int .i64 o.se] 50)).heap.size := hO1.1
              have hold : ∀ r ∈ L, r.p < wr.heap.size := fun r hr => (hh.full.tab.path r hr).lt
              have hgold : ∀ g, u4.ownBlock = some g → g < wr.heap.size := fun g hg => (World.ownsRow.lt hh.rows g hg).2
              obtain ⟨pv, hfind, hpv⟩ := find_pv hh.full.tab.ap hwx hwy
              go_wp2_with (first
                | (go_at_call 7; refine (hfind _ _ _ hV.full.tab).mono ?_; rintro e w3 ⟨rfl, hb3⟩; have hV3 := hV.below hb3; have hO3 := own_below hO1 hb3))
              have hgB0' : ∀ g, u4.ownBlock = some g → g ≠ wr.heap.size := fun g hg => by have := hgold g hg; omega
              generalize wr.heap.size = B0 at *
              obtain ⟨pu, cu, rfl, -⟩ := rows_view hV3.rows
              clear hV hO1 q0 q1 q2 q3 q4 q5 hVb hB0
              go_loopw [11] (fun u11 wi => ∃ (k : Nat) (N : List PRow), u11 = .int .i64 k ∧ k ≤ L.length ∧ N.length = L.length ∧ Here w (b + 1) b (.slice pu L.length cu) N wi ∧ Own wi B0 #[.int .i64 2, .int .i64 o.x, .int .i64 o.y, .int .i64 o.st, .int .i64 o.pr, .int .i64 o.se] ∧ (∀ r ∈ N, r.x = o.x ∧ r.y = o.y → pv = .pointer (some ⟨r.p, 0, none⟩)) ∧ ∀ r ∈ N, r.p < B0)
                (fun u11 _ => L.length - idxV u11)
              case atStart => exact ⟨0, L, rfl, Nat.zero_le _, rfl, hV3, hO3, hpv, hold⟩
              case round =>
                obtain ⟨k, N, rfl, hk, hNl, hN, hON, hpN, hoN⟩ := hrel
                clear hpv hold hV3 hO3
                have z1 := hON.2.1 1
                have z2 := hON.2.1 2
                have z3 := hON.2.1 3
                simp only [List.getElem?_toArray, List.getElem?_cons_zero, List.getElem?_cons_succ] at z1 z2 z3
                by_cases hlk : k < L.length
                · have hkN : k < N.length := by omega
                  obtain ⟨pu', cu', he, hcell⟩ := rows_view hN.rows
                  simp only [Value.slice.injEq] at he
                  obtain ⟨rfl, -, rfl⟩ := he
                  obtain ⟨g, rfl, hg, hgs, c0, c1, c2, c3, c4⟩ := hcell k hkN
                  have hr := List.getElem_mem hkN
                  have hrows : Rows5 wr w.heap.size (.slice (some ⟨g, 0, none⟩) N.length cu) N := by rw [hNl]; exact hN.rows
                  have hN' : Here w (b + 1) b (.slice (some ⟨g, 0, none⟩) N.length cu) N wr := by rw [hNl]; exact hN
                  have hgB0 : g ≠ B0 := hgB0' g rfl
                  clear hcell
                  by_cases hm : N[k].x = o.x ∧ N[k].y = o.y
                  · have hset := fun (W : World) (hW : Here w (b + 1) b (.slice (some ⟨g, 0, none⟩) N.length cu) N W) => here_set hW hkN o.st
                    obtain rfl := hpN _ hr hm
                    have hpth := hN.full.tab.path _ hr
                    have hst := hpth.st
                    have hfz := hpth.fz
                    have hgr := (hN.row g rfl).2.2 _ hr
                    have hfg : wr.frozen? ⟨g, k * 5 + 2, none⟩ = false := World.ownsRow.frozenAt hrows _
                    have hBne : N[k].p ≠ B0 := by have := hoN _ hr; omega
                    have hpS : ∀ r ∈ setL N N[k].x N[k].y o.st, r.x = o.x ∧ r.y = o.y → Value.pointer (some ⟨N[k].p, 0, none⟩) = .pointer (some ⟨r.p, 0, none⟩) := by
                      intro r hr' hm'
                      obtain ⟨r0, hr0, rfl⟩ := List.mem_map.1 hr'
                      obtain ⟨e1, e2, e3, -⟩ := setR_same N[k].x N[k].y o.st r0
                      rw [e2, e3] at hm'
                      rw [e1]
                      exact hpN r0 hr0 hm'
                    have hoS : ∀ r ∈ setL N N[k].x N[k].y o.st, r.p < B0 := by
                      intro r hr'
                      obtain ⟨r0, hr0, rfl⟩ := List.mem_map.1 hr'
                      rw [(setR_same N[k].x N[k].y o.st r0).1]
                      exact hoN r0 hr0
                    have hSl : (setL N N[k].x N[k].y o.st).length = L.length := by unfold setL; rw [List.length_map]; exact hNl
                    generalize setL N N[k].x N[k].y o.st = M at *
                    rw [hm.1] at c0
                    rw [hm.2] at c1
                    generalize N[k].p = P at *
                    have hNd := hN'
                    clear hpN hoN hpth hrows hN
                    go_wp2
                    go_quiet (fail)
                    have hW : Here w (b + 1) b (.slice (some ⟨g, 0, none⟩) N.length cu) N (wr.drewN nq) := hNd.below (below_drewN (Below.refl _ _) nq)
                    have hfin := hset _ hW
                    have hOW : Own (wr.drewN nq) B0 #[.int .i64 2, .int .i64 o.x, .int .i64 o.y, .int .i64 o.st, .int .i64 o.pr, .int .i64 o.se] := own_drewN hON nq
                    have hgB : g ≠ B0 := by have := hgs; intro e; exact absurd e hgB0
                    have hOf := own_set_other (own_set_other hOW (p := ⟨P, 2, none⟩) hBne (.int .i64 o.st)) (p := ⟨g, k * 5 + 2, none⟩) hgB (.int .i64 o.st)
                    have y3 : ((wr.drewN nq).setCell ⟨P, 2, none⟩ (.int .i64 o.st)).cell? ⟨B0, 3, none⟩ = some (.int .i64 o.st) := (own_set_other hOW (p := ⟨P, 2, none⟩) hBne (.int .i64 o.st)).2.1 3
                    have y2 : ((wr.drewN nq).setCell ⟨P, 2, none⟩ (.int .i64 o.st)).cell? ⟨g, k * 5 + 2, none⟩ = _ := (World.cell?_setCell_other (w := wr.drewN nq) (a := ⟨P, 2, none⟩) (b := ⟨g, k * 5 + 2, none⟩) (v := .int .i64 o.st) (h := fun e => hgr.1 (by injection e with e1 _ _; exact e1.symm))).trans c2
                    have x3 : (wr.drewN nq).cell? ⟨B0, 3, none⟩ = some (.int .i64 o.st) := z3
                    have xs : (wr.drewN nq).cell? ⟨P, 2, none⟩ = _ := hst
                    have xf : (wr.drewN nq).frozen? ⟨P, 2, none⟩ = false := hfz
                    have yf : ((wr.drewN nq).setCell ⟨P, 2, none⟩ (.int .i64 o.st)).frozen? ⟨g, k * 5 + 2, none⟩ = false := by rw [frozen?_set]; exact hfg
                    clear z1 z2 z3 c0 c1 c2 c3 c4 hst hfz hfg hset hNd hN' hON
                    generalize wr.drewN nq = W9 at *
                    go_wp2
                    go_roundw
                    case rel =>
                      rw [hNl] at hfin
                      exact ⟨k + 1, M, rfl, hlk, hSl, hfin, hOf, hpS, hoS⟩
                    case measure => simp [idxV]; omega
                  · clear hN' hrows
                    by_cases hx : N[k].x = o.x
                    · have hy : ¬ N[k].y = o.y := fun hy => hm ⟨hx, hy⟩
                      rw [hx] at c0
                      go_wp2
                      go_quiet (fail)
                      go_wp2
                      go_roundw
                      case rel => exact ⟨k + 1, N, rfl, hlk, hNl, hN.below (below_drewN (Below.refl _ _) nq), own_drewN hON nq, hpN, hoN⟩
                      case measure => simp [idxV]; omega
                    · have hy := hx
                      go_wp2
                      go_quiet (fail)
                      go_wp2
                      go_roundw
                      case rel => exact ⟨k + 1, N, rfl, hlk, hNl, hN.below (below_drewN (Below.refl _ _) nq), own_drewN hON nq, hpN, hoN⟩
                      case measure => simp [idxV]; omega
                · go_wp2_with (first
                    | (go_at_call 18; refine (shown_any sortLaw hN.full hN.rows).mono ?_; rintro e w6 ⟨rfl, hb6⟩))
                  go_roundw
                  case rel => exact ⟨i + 1, N, rfl, hli, hN.below hb6⟩
                  case measure => simp [idxV]; omega
            · by_cases k3 : o.kd = 3
              · rw [k3] at q0 hV hO1
                obtain ⟨i0, hi0, hz0, hz1, hz2⟩ := info_parts row_infoP
                obtain ⟨pu, cu, rfl, hcell⟩ := rows_view hV.rows
                have hVb : Below wr.heap.size wr (wr.alloc (.cells #[.int .i64 3, .int .i64 o.x, .int .i64 o.y, .int .i64 o.st, .int .i64 o.pr, .int .i64 o.se] 50)) := (Below.refl _ _).alloc (Nat.le_refl _) _
                have h6 := hh.full.tab.six
                go_wp2
                generalize wr.alloc (.cells #[.int .i64 3, .int .i64 o.x, .int .i64 o.y, .int .i64 o.st, .int .i64 o.pr, .int .i64 o.se] 50) = V at *
                clear hO1 q0 q1 q2 q3 q4 q5
                go_loopw [12, 13] (fun u12 u13 wi => ∃ k : Nat, u13 = .int .i64 k ∧ k ≤ L.length ∧ Rows5 wi V.heap.size u12 (sweepL (L.take k)) ∧ Below V.heap.size V wi)
                  (fun _ u13 _ => L.length - idxV u13)
                case atStart => exact ⟨0, rfl, Nat.zero_le _, ⟨rfl, .inl ⟨rfl, rfl⟩⟩, Below.refl _ _⟩
                case round =>
                  obtain ⟨k, rfl, hk, hrow, hbi⟩ := hrel
                  by_cases hlk : k < L.length
                  · obtain ⟨g, rfl, hg, hgs, c0, c1, c2, c3, c4⟩ := hcell k hlk
                    have htk := sweep_take hlk
                    have hsl : (sweepL (L.take k)).length ≤ 6 := by
                      have h1 := List.length_filter_le (fun r : PRow => !decide (r.st = 4)) (L.take k)
                      have h2 := List.length_take_le k L
                      unfold sweepL
                      omega
                    generalize L[k] = r at *
                    have d0 := (hbi.cell (p := ⟨g, k * 5, none⟩) hgs).trans c0
                    have d1 := (hbi.cell (p := ⟨g, k * 5 + 1, none⟩) hgs).trans c1
                    have d2 := (hbi.cell (p := ⟨g, k * 5 + 2, none⟩) hgs).trans c2
                    have d3 := (hbi.cell (p := ⟨g, k * 5 + 3, none⟩) hgs).trans c3
                    have d4 := (hbi.cell (p := ⟨g, k * 5 + 4, none⟩) hgs).trans c4
                    have hrow' : wr.ownsRow V.heap.size 53 5 _ (sweepL (L.take k)).length (rowsV (sweepL (L.take k))) := hrow
                    clear hcell c0 c1 c2 c3 c4
                    by_cases h4 : r.st = 4
                    · rw [h4] at d2
                      rw [if_pos h4, List.append_nil] at htk
                      go_wp2
                      go_roundw
                      case rel =>
                        refine ⟨k + 1, rfl, hlk, ?_, hbi⟩
                        rw [htk]; exact hrow
                      case measure => simp [idxV]; omega
                    · rw [if_neg h4] at htk
                      go_wp2_with (first
                        | (at_builtin; go_loud (refine wpList_append_own _ rfl _ _ 48 rfl V.heap.size 53 i0 (.agg #[.int .i64 0, .int .i64 0, .int .i64 0, .int .i64 0, .int .i64 0]) 5 40 Try.underlying48 hi0 hz0 hz1 hz2 rfl (by decide) _ _ _ rfl (hrow'.alloc _) ⟨wr.heap.size, 0, none⟩ 1 1 (rowV r) rfl rfl (cells_new wr _ _) (rowV_one r) (by unfold maxLen; omega) (by omega) (by have := hbi.size; simp; omega) ?_); intro v' w3 hown' hg3 hnil3)
                        | go_in)
                      go_roundw
                      case rel =>
                        refine ⟨k + 1, rfl, hlk, ?_, (hbi.alloc hbi.size _).grown hg3 (by have := hbi.size; simp; omega) (fun j hj => (hrow'.lt j hj).1)⟩
                        rw [htk]
                        unfold Rows5
                        rw [rowsV_append, List.length_append]
                        exact hown'
                      case measure => simp [idxV]; omega
                  · have hke : k = L.length := by omega
                    subst hke
                    rw [List.take_length] at hrow
                    obtain ⟨p12, c12, rfl⟩ := row_slice hrow
                    have hsw := sweep_len L
                    have hdf : (L.length : Int) - (sweepL L).length = (goneN L : Int) := by omega
                    have hwr : IntKind.i64.wrap (goneN L : Int) = (goneN L : Int) := w64 _ (by omega) (by omega)
                    clear hcell
                    go_wp2_with (first
                      | (go_at_call 9; refine (sweep_any sortLaw (hV.full.tab.below hbi)).mono ?_; rintro e w5 ⟨rfl, hk5, hT5⟩; have hh5 := here_sweep hh hVb hrow hbi hk5 hT5)
                      | (go_at_call 18; refine (shown_any sortLaw hh5.full hh5.rows).mono ?_; rintro e w6 ⟨rfl, hb6⟩))
                    go_roundw
                    case rel => exact ⟨i + 1, sweepL L, rfl, hli, hh5.below hb6⟩
                    case measure => simp [idxV]; omega
              · go_wp2_with (first
                  | (go_at_call 18; refine (shown_any sortLaw hV.full hV.rows).mono ?_; rintro e w6 ⟨rfl, hb6⟩))
                go_roundw
                case rel => exact ⟨i + 1, L, rfl, hli, hV.below hb6⟩
                case measure => simp [idxV]; omega
      · go_wp2
        go_ret
        exact ⟨rfl, hh.bel⟩
  · have h100' : ¬ (n : Int) ≤ 100 := by omega
    go_enter Try.func4, Try.ntmps4
    go_wp2_with (first
      | (go_at_call 5; refine (works30 _).mono ?_; rintro e w1 ⟨rfl, hb1⟩))
    go_ret
    exact ⟨rfl, hb1⟩
end Go.Proofs.Ytenngklohffoaaa
