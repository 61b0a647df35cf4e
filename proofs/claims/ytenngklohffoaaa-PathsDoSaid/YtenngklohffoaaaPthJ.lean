/- Paths: choices of a table. No conditions but what the sort says. -/
import Derived.Test.YtenngklohffoaaaPthQ
import Derived.Deep.RegionHeld3
namespace Go.Proofs.Ytenngklohffoaaa
set_option linter.unusedVariables false
set_option linter.unusedSimpArgs false
open Go.RowKit Sym Go.Maps Go.WideMaps Go.Sort Go.Lib Go.Shelf

theorem chs_infoP : (Try.prog.info? 61).map (fun i => (i.zero, i.size, i.bytes)) = some (some (.agg #[.int .i64 0, .int .i64 0, .int .i64 0, .bool false]), 4, 32) := by kernel_rfl
def choV (r : PRow) : List Value := [.int .i64 (idP r), .int .i64 r.pr, .int .i64 8, .bool (decide ((r.se : Int) < 3))]
def isC (r : PRow) : Bool := decide (r.st = 2)
def choN (rs : List PRow) : Nat := (rs.filter isC).length
def choL (rs : List PRow) : List Value := (rs.filter isC).flatMap choV
theorem choN_le (rs : List PRow) : choN rs ≤ rs.length := List.length_filter_le _ _
theorem cho_take {rs : List PRow} {i : Nat} (hi : i < rs.length) : choN (rs.take (i + 1)) = choN (rs.take i) + (if isC rs[i] then 1 else 0) ∧ choL (rs.take (i + 1)) = choL (rs.take i) ++ (if isC rs[i] then choV rs[i] else []) := by
  unfold choN choL
  rw [List.take_succ_eq_append_getElem hi, List.filter_append, List.length_append, List.flatMap_append]
  cases hj : isC rs[i] <;> simp [hj]
/-- append, as one step of a region that draws its order -/
theorem step_append_own {P : Program} {ops : Array Oper} {o : Oper} {a : Act} {w : World} {K : Act → World → Prop} {Q : Exit → Act → World → Prop} {E : Prop}
    (hg : o.guard = none) (s x : Operand) (t : TypeId) (hop : o.op = Op.call { callee := Callee.builtin Builtin.append, args := #[s, x], argTypes := #[t, t] })
    (base : Nat) (e : TypeId) (i : TypeInfo) (z : Value) (size bytes : Nat) (h1 : P.underlying t = some (.slice e)) (h2 : P.info? e = some i) (h3 : i.zero = some z) (h4 : i.size = size) (h5 : i.bytes = bytes) (h6 : z.cells.size = size) (h7 : 0 < size)
    (u : Value) (n : Nat) (xs : List Value) (hs : a.eval s = u) (hown : w.ownsRow base e size u n xs)
    (ad : Addr) (m c : Nat) (news : List Value) (hx : a.eval x = .slice (some ad) m c) (hn : news.length = m * size) (hc : ∀ j u, news[j]? = some u → w.cell? (ad.add j) = some u) (h1c : ∀ u ∈ news, u.oneCell' = true)
    (b1 : n + m ≤ maxLen) (b2 : (n + m) * bytes ≤ 140737488355328) (hbase : base ≤ w.heap.size)
    (hK : ∀ v' w', w'.ownsRow base e size v' (n + m) (xs ++ news) → w.grownBy w' u.ownBlock → K (a.put o.dst v') w') :
    if Region.wanted o (yielded ops a.tmps) = true then Oper.wp P o a w K Q else E := by
  have hw : Region.wanted o (yielded ops a.tmps) = true := by simp [Region.wanted, hg]
  rw [if_pos hw]
  obtain ⟨v', w', hrun, r1, r2, _⟩ := run_append_own (P := P) w base t o.type e i z size bytes h1 h2 h3 h4 h5 h6 h7 u n xs hown ad m c news hn hc h1c b1 b2 hbase
  unfold Oper.wp
  simp [execOp, hop, resolve, invoke, builtin, hs, hx, hrun, Result.andThen]
  exact hK v' w' r1 r2
theorem cells_new (w : World) (cs : Array Value) (t : TypeId) (j : Nat) (u : Value) (h : cs.toList[j]? = some u) : (w.alloc (.cells cs t)).cell? ((⟨w.heap.size, 0, none⟩ : Addr).add j) = some u := by
  have e : ((⟨w.heap.size, 0, none⟩ : Addr).add j) = ⟨w.heap.size, j, none⟩ := by
    simp [Addr.add]
    intro h; exact h.symm
  rw [e]
  have := (own_new w cs t).2.1 j
  rw [this, ← Array.getElem?_toList, h]
theorem choV_one (r : PRow) : ∀ u ∈ choV r, u.oneCell' = true := by
  intro u hu
  unfold choV at hu
  simp only [List.mem_cons, List.not_mem_nil, or_false] at hu
  rcases hu with rfl | rfl | rfl | rfl <;> rfl
set_option maxRecDepth 100000 in
set_option maxHeartbeats 4000000 in
theorem choices_any (hS : SortLaw) {w : World} {tb b : Nat} {L : List PRow} (h : FullAt w tb b L) :
    Calls Try.prog 10 #[.pointer (some ⟨tb, 0, none⟩)] w fun e w' => ∃ u rs, e = .returned u ∧ InOrder L rs ∧ w'.ownsRow w.heap.size 61 4 u (choN rs) (choL rs) ∧ Below w.heap.size w w' := by
  obtain ⟨i0, hi, hz0, hz1, hz2⟩ := info_parts chs_infoP
  have hsix := h.tab.six
  go_enter Try.func10, Try.ntmps10
  go_wp2_with (go_at_call 8; refine (all_any hS h.tab).mono ?_; rintro e wa ⟨ua, rs, rfl, hO, hP, hba⟩; obtain ⟨pa, capa, rfl, hcell⟩ := ptrs_view hP)
  have hlen : L.length = rs.length := hO.1.length_eq.symm
  have hfa := h.below hba
  go_loopw [3, 9] (fun u u9 wr => ∃ i : Nat, u9 = .int .i64 i ∧ i ≤ rs.length ∧ wr.ownsRow wa.heap.size 61 4 u (choN (rs.take i)) (choL (rs.take i)) ∧ Below wa.heap.size wa wr)
    (fun _ u9 _ => rs.length - idxV u9)
  case atStart =>
    exact ⟨0, rfl, Nat.zero_le _, ⟨rfl, .inl ⟨rfl, rfl⟩⟩, Below.refl _ _⟩
  case round =>
    obtain ⟨i, rfl, hile, hrow, hb⟩ := hrel
    by_cases hlt : i < rs.length
    · obtain ⟨g, rfl, hg, hc⟩ := hcell i hlt
      have hr := hO.1.mem_iff.1 (List.getElem_mem hlt)
      obtain ⟨htn, htl⟩ := cho_take hlt
      generalize rs[i] = r at *
      have hc1 : wr.cell? ⟨g, i, none⟩ = some (.pointer (some ⟨r.p, 0, none⟩)) := (hb.cell (p := ⟨g, i, none⟩) (lt_of_cell hc)).trans hc
      have hst : wr.cell? ⟨r.p, 2, none⟩ = some (.int .i64 r.st) := ((hfa.tab.path r hr).below hb).st
      have hin := hfa.tab.ap.1 r hr
      clear hcell hc
      by_cases hj : r.st = 2
      · have hjc : isC r = true := decide_eq_true hj
        rw [hjc, if_pos rfl] at htn htl
        rw [hj] at hst
        have hchS : ∀ w' : World, Below wa.heap.size wa w' → w'.cell? ⟨r.p, 0, none⟩ = some (.int .i64 r.x) ∧ w'.cell? ⟨r.p, 1, none⟩ = some (.int .i64 r.y) ∧ w'.cell? ⟨r.p, 3, none⟩ = some (.int .i64 r.pr) ∧ w'.cell? ⟨r.p, 5, none⟩ = some r.ctl :=
          fun w' hw => ⟨((hfa.tab.path r hr).below hw).x, ((hfa.tab.path r hr).below hw).y, ((hfa.tab.path r hr).below hw).pr, ((hfa.tab.path r hr).below hw).ctl⟩
        have hctl : ∀ w' : World, Below wa.heap.size wa w' → CtlAt w' r.ctl r.se r.F := fun w' hw => (hfa.ctl r hr).below hw
        have hidp : idN r.x r.y = idP r := idN_in ⟨hin.1, hin.2.1⟩ ⟨hin.2.2.1, hin.2.2.2⟩
        go_wp2
        have hbd := hb.drew
        have hrowd : wr.drew.ownsRow wa.heap.size 61 4 _ (choN (rs.take i)) (choL (rs.take i)) := hrow
        go_region_held3 (fun w' => w'.cell? ⟨r.p, 0, none⟩ = some (.int .i64 r.x) ∧ w'.cell? ⟨r.p, 1, none⟩ = some (.int .i64 r.y) ∧ w'.cell? ⟨r.p, 3, none⟩ = some (.int .i64 r.pr) ∧ w'.cell? ⟨r.p, 5, none⟩ = some r.ctl)
          (first | (exact hchS _ (by assumption)) | (exact (fun hq : Below wa.heap.size wa _ => hchS _ (hq.alloc hq.size _)) (by assumption)))
          (first
            | (go_at_call 14; refine (id_below _ _ _).mono ?_; rw [hidp]; rintro e w1 ⟨rfl, hbI⟩; have hB1 := hbd.trans (hbI.mono hbd.size))
            | (go_at_call 23; refine (trip_at (hctl _ hB1)).mono ?_; rintro e w2 ⟨rfl, hbT⟩; have hB2 := hB1.trans (hbT.mono hB1.size))
            | (go_at_call 24; refine (room_at (hctl _ hB2)).mono ?_; rintro e w3 ⟨rfl, hbR⟩; have hB3 := hB2.trans (hbR.mono hB2.size); have hrow3 := row_below (row_below (row_below hrowd hbI) hbT) hbR)
            | (refine step_append_own rfl _ _ 39 rfl wa.heap.size 61 i0 (.agg #[.int .i64 0, .int .i64 0, .int .i64 0, .bool false]) 4 32 Try.underlying39 hi hz0 hz1 hz2 rfl (by decide) _ _ _ (by simp [Act.eval, Act.put]) (hrow3.alloc _) ⟨w3.heap.size, 0, none⟩ 1 1 (choV r) (by simp [Act.eval, Act.put]) rfl (cells_new w3 _ _) (choV_one r) (by have := choN_le (rs.take i); have := List.length_take_le i rs; unfold maxLen; omega) (by have := choN_le (rs.take i); have := List.length_take_le i rs; omega) (by have := hB3.size; simp; omega) ?_; intro v' w4 hown' hg4; have hB4 := (hB3.alloc hB3.size _).grown hg4 (by have := hB3.size; simp; omega) (fun j hj => (hrow3.lt j hj).1)))
        go_wp2
        go_roundw
        case rel =>
          refine ⟨i + 1, rfl, hlt, ?_, hB4⟩
          rw [htn, htl]
          exact hown'
        case measure => simp [idxV]; omega
      · have hjc : isC r = false := decide_eq_false hj
        rw [hjc] at htn htl
        go_wp2
        go_roundw
        case rel =>
          refine ⟨i + 1, rfl, hlt, ?_, hb⟩
          rw [htn, htl]
          simpa using hrow
        case measure => simp [idxV]; omega
    · go_wp2
      go_ret
      have hie : i = rs.length := by omega
      subst hie
      rw [List.take_length] at hrow
      exact ⟨_, rs, rfl, hO, row_mono hrow hba.size, hba.trans (hb.mono hba.size)⟩
end Go.Proofs.Ytenngklohffoaaa
