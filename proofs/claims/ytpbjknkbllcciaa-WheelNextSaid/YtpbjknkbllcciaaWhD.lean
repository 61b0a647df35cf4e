/- Timers: what is due: Turn's contract. No conditions. -/
import Derived.Test.YtpbjknkbllcciaaWhC
import Derived.Test.YtpbjknkbllcciaaPlA
import Derived.LoopTactic
namespace Go.Proofs.Ytpbjknkbllcciaa
set_option linter.unusedVariables false
set_option linter.unusedSimpArgs false
open Go.RowKit Sym Go.Maps Go.Sort Go.Lib

def nameL (D : DataW Unit) (i : Nat) : List UInt8 := (ordL D).getD i []
def delN (D : DataW Unit) : Nat → DataW Unit
  | 0 => D
  | i + 1 => (delN D i).del (.string (nameL D i))
/-- how many are due -/
def dueN (D : DataW Unit) (now : Int) : Nat := firstOf (fun i => !decide (dueL D (nameL D i) ≤ now)) (ordL D).length 0
def nowT (now t : Int) : Int := min (now + min (max t 0) 1073741824) 1099511627776
def NamesAt (w : World) (g : Nat) (rs : List (List UInt8)) : Prop := ∀ i, i < rs.length → w.cell? ⟨g, i, none⟩ = some (encStr (rs.getD i []))
/-- what has become of a wheel -/
structure TurnAt (w w' : World) (sb b n : Nat) (D : DataW Unit) (nw : Int) (v : Value) : Prop where
  own : Own w' sb #[.int .i64 nw, .map (some b)]
  map : w'.ownsMap Try.prog 9 (plainElem Try.prog 3) b n (delN D (dueN D nw))
  vec : VecSat w' noGrow 1 v (dueN D nw) (((ordL D).take (dueN D nw)).map encStr)
  fresh : ∀ c, blockOf v = some c → w.heap.size ≤ c
  os : w'.os = w.os
  tape : w'.tape = w.tape
  output : w'.output = w.output
  size : w.heap.size ≤ w'.heap.size
  block : ∀ k, k < w.heap.size → k ≠ sb → k ≠ b → w'.heap[k]? = w.heap[k]?
theorem own_block {W w : World} {B : Nat} {cs : Array Value} (h : Own W B cs) (hs : W.heap.size ≤ w.heap.size) (hb : w.heap[B]? = W.heap[B]?) : Own w B cs :=
  ⟨Nat.lt_of_lt_of_le h.1 hs, fun j => (World.cell?_of_block (a := ⟨B, j, none⟩) hb).trans (h.2.1 j), fun j => (World.frozen?_of_block (a := ⟨B, j, none⟩) hb).trans (h.2.2 j)⟩
theorem TurnAt.drewN {w w' : World} {sb b n : Nat} {D : DataW Unit} {nw : Int} {v : Value} (h : TurnAt w w' sb b n D nw v) (q : Nat) : TurnAt w (w'.drewN q) sb b n D nw v :=
  ⟨own_drewN h.own q, h.map, h.vec, h.fresh, h.os, h.tape, h.output, h.size, h.block⟩
/-- what the loops come to -/
theorem turn_end {w w' wr : World} {sb b n g cap k : Nat} {D : DataW Unit} {now nw : Int} {rs : List (List UInt8)} (hO : Own w sb #[.int .i64 now, .map (some b)]) (hne : sb ≠ b) (hbl : b < w.heap.size)
    (hbel : Below (w.setCell ⟨sb, 0, none⟩ (.int .i64 nw)).heap.size (w.setCell ⟨sb, 0, none⟩ (.int .i64 nw)) w') (hG : w'.grownBy wr (some b)) (hD : wr.ownsMap Try.prog 9 (plainElem Try.prog 3) b n (delN D k)) (hk : dueN D nw = k) (hl : ordL D = rs)
    (hrow : w'.ownsRow (w.setCell ⟨sb, 0, none⟩ (.int .i64 nw)).heap.size 9 1 (.slice (some ⟨g, 0, none⟩) rs.length cap) rs.length (rs.map encStr)) (hkl : k ≤ rs.length) (hc : rs.length ≤ cap) (hcm : cap ≤ maxLen) :
    TurnAt w wr sb b n D nw (.slice (some ⟨g, 0, none⟩) k k) := by
  have hz : (w.setCell ⟨sb, 0, none⟩ (.int .i64 nw)).heap.size = w.heap.size := by simp
  rw [hz] at hbel hrow
  have hrow' := hrow
  rcases hrow.2 with ⟨q, -⟩ | ⟨g', cap', cur, q, hbase, hb, h1, h2, h3, h4⟩
  · cases q
  simp only [Value.slice.injEq, Option.some.injEq, Addr.mk.injEq, and_true, true_and] at q
  obtain ⟨rfl, rfl⟩ := q
  have hgw : g < w'.heap.size := (Array.getElem?_eq_some_iff.1 hb).1
  have hgb : wr.heap[g]? = w'.heap[g]? := hG.block g hgw (fun e => by injection e with e; omega)
  have own1 : Own (w.setCell ⟨sb, 0, none⟩ (.int .i64 nw)) sb #[.int .i64 nw, .map (some b)] := own_set hO 0 (by simp) _
  have hbs : w.heap.size ≤ w'.heap.size := by rw [← hz]; exact hbel.size
  have own2 : Own w' sb #[.int .i64 nw, .map (some b)] := own_block own1 (by rw [hz]; exact hbs) (hbel.block sb hO.1)
  refine ⟨own_block own2 hG.size (hG.block sb own2.1 (fun e => hne (by injection e))), hk.symm ▸ hD, .inr ⟨rfl, ?_, g, k, by rw [hk], Nat.lt_of_lt_of_le hgw hG.size, by rw [hk]; exact Nat.le_refl _, by omega, fun j hj => ?_⟩, fun c hc => ?_, hG.os.trans hbel.os, hG.tape.trans hbel.tape, hG.output.trans hbel.output, Nat.le_trans hbs hG.size, fun c hc h5 h6 => ?_⟩
  · rw [hk, hl, List.length_map, List.length_take]; omega
  · rw [hk] at hj ⊢
    rw [hl]
    refine ⟨(World.cell?_of_block (a := ⟨g, j, none⟩) hgb).trans ?_, (World.frozen?_of_block (a := ⟨g, j, none⟩) hgb).trans ?_⟩
    · rw [hrow'.cellAt j (by omega), List.getElem?_map, List.getElem?_map, List.getElem?_take_of_lt (by omega)]
    · unfold World.frozen?; rw [hb]; simp
  · simp only [blockOf, Option.some.injEq] at hc
    omega
  · rw [hG.block c (Nat.lt_of_lt_of_le hc hbs) (fun e => h6 (by injection e)), hbel.block c hc]
    simp only [World.setCell]
    rw [Array.getElem?_modify, if_neg (fun e => h5 e.symm)]
set_option maxRecDepth 100000 in
set_option maxHeartbeats 4000000 in
theorem turn_any {b n sb : Nat} {D : DataW Unit} {now t : Int} {w : World} (hown0 : Own w sb #[.int .i64 now, .map (some b)]) (hne : sb ≠ b) (h0 : 0 ≤ now) (h1 : now ≤ 1099511627776)
    (hown : w.ownsMap Try.prog 9 (plainElem Try.prog 3) b n D) (hmax : Maps.size D ≤ 1000000000) :
    Calls Try.prog 10 #[.pointer (some ⟨sb, 0, none⟩), .int .i64 t] w fun e w' => ∃ v, e = .returned v ∧ TurnAt w w' sb b n D (nowT now t) v := by
  have c0 : w.cell? ⟨sb, 0, none⟩ = some (.int .i64 now) := hown0.2.1 0
  have c1 : w.cell? ⟨sb, 1, none⟩ = some (.map (some b)) := hown0.2.1 1
  have f0 : w.frozen? ⟨sb, 0, none⟩ = false := hown0.2.2 0
  have hsl : sb < w.heap.size := lt_of_cell c0
  have hown1 := hown.setCell (a := ⟨sb, 0, none⟩) hne.symm (.int .i64 (nowT now t))
  have hord := order_any (sb := sb) ((World.cell?_setCell_other (w := w) (a := ⟨sb, 0, none⟩) (b := ⟨sb, 1, none⟩) (v := .int .i64 (nowT now t)) (h := by simp)).trans c1) hown1 hmax
  unfold nowT at hord
  go_enter Try.func10, Try.ntmps10
  go_wp2_with (go_at_call 14; refine hord.mono ?_; rintro e w' ⟨v, rfl, rs, hO, hrow, hbel⟩)
  have hl := ordL_eq hO
  generalize hnw : min (now + min (max t 0) 1073741824) 1099511627776 = nw at *
  have hs1 : sb < (w.setCell ⟨sb, 0, none⟩ (.int .i64 nw)).heap.size := by simpa using hsl
  have d0 : w'.cell? ⟨sb, 0, none⟩ = some (.int .i64 nw) := (hbel.cell (p := ⟨sb, 0, none⟩) hs1).trans (World.cell?_setCell_same (w := w) (a := ⟨sb, 0, none⟩) (v := .int .i64 nw) (h := c0))
  have d1 : w'.cell? ⟨sb, 1, none⟩ = some (.map (some b)) := (hbel.cell (p := ⟨sb, 1, none⟩) hs1).trans ((World.cell?_setCell_other (w := w) (a := ⟨sb, 0, none⟩) (b := ⟨sb, 1, none⟩) (v := .int .i64 nw) (h := by simp)).trans c1)
  have hown2 : w'.ownsMap Try.prog 9 (plainElem Try.prog 3) b n D := owns_below (hown.setCell (a := ⟨sb, 0, none⟩) hne.symm (.int .i64 nw)) hbel
  have hrs : ∀ x ∈ rs, x.length ≤ maxLen := fun x hx => strKeys_le hown Try.underlying9 x (hO.1.mem_iff.1 hx)
  have hN : rs.length ≤ 1000000000 := by
    have h := hO.1.length_eq
    obtain ⟨es, he, -⟩ := World.ownsMap.keysOf hown
    rw [he] at h hmax
    simp only [strKeys, List.length_map] at h
    rw [Maps.size_eq] at hmax
    omega
  have hnm : ∀ i, nameL D i = rs.getD i [] := fun i => by unfold nameL; rw [hl]
  obtain ⟨-, k1, k2, k3⟩ := firstOf_spec (fun i => !decide (dueL D (nameL D i) ≤ nw)) (ordL D).length 0
  have hk : firstOf (fun i => !decide (dueL D (nameL D i) ≤ nw)) (ordL D).length 0 = dueN D nw := rfl
  rw [hk] at k1 k2 k3
  rw [Nat.zero_add, hl] at k1 k3
  generalize hkk : dueN D nw = k at k1 k2 k3
  have k2' : ∀ i, i < k → dueL D (rs.getD i []) ≤ nw := fun i hi => by have := k2 i (Nat.zero_le _) hi; rw [hnm] at this; simpa using this
  have k3' : k < rs.length → ¬ dueL D (rs.getD k []) ≤ nw := fun hi => by have := k3 hi; rw [hnm] at this; simpa using this
  have hlook : ∀ i q, i < rs.length → (Instr.lookup 41 (.map (some b)) (encStr (rs.getD i [])) false).run Try.prog (w'.drewN q) = .ok (.int .i64 (dueL D (rs.getD i []))) (w'.drewN q) := fun i q hi => by
    have hm : rs.getD i [] ∈ rs := by rw [List.getD_eq_getElem?_getD, List.getElem?_eq_getElem hi]; exact List.getElem_mem hi
    exact look_run (x := ⟨rs.getD i [], hrs _ hm⟩) (show (w'.drewN q).ownsMap _ _ _ _ _ _ from hown2)
  rcases hrow.2 with ⟨rfl, hz⟩ | ⟨g, cap, cur, rfl, hbase, hb, hc1, hc2, hc3, hc4⟩
  · obtain rfl : rs = [] := List.length_eq_zero_iff.1 hz
    obtain rfl : k = 0 := by simpa using k1
    have fin : TurnAt w w' sb b n D nw (.slice none 0 0) := by
      have hz2 : (w.setCell ⟨sb, 0, none⟩ (.int .i64 nw)).heap.size = w.heap.size := by simp
      have hbs : w.heap.size ≤ w'.heap.size := by rw [← hz2]; exact hbel.size
      refine ⟨own_block (own_set hown0 0 (by simp) _) (by rw [hz2]; exact hbs) (hbel.block sb hs1), hkk.symm ▸ hown2, .inl ⟨by rw [hkk]; simp, .inl ⟨rfl, hkk⟩⟩, (fun c hc => by cases hc), hbel.os, hbel.tape, hbel.output, hbs, fun c hc h5 h6 => ?_⟩
      rw [hbel.block c (by rw [hz2]; exact hc)]
      simp only [World.setCell]
      rw [Array.getElem?_modify, if_neg (fun e => h5 e.symm)]
    refine wp_loop_rounds 1 ?_
    rw [rounds_succ]
    go_wp2_with fail
    go_quiet (fail)
    go_wp2
    refine wp_loop_rounds 1 ?_
    rw [rounds_succ]
    go_wp2
    go_ret
    refine ⟨_, rfl, ?_⟩
    rw [show nowT now t = nw from hnw]
    exact fin.drewN nq
  · have hcell : NamesAt w' g rs := fun i hi => by
      have h := hrow.cellAt i (by omega)
      rw [h, List.getElem?_map, List.getElem?_eq_getElem hi, List.getD_eq_getElem?_getD, List.getElem?_eq_getElem hi]
      rfl
    clear k2 k3
    have hsw : sb < w'.heap.size := lt_of_cell d0
    have hgw : g < w'.heap.size := (Array.getElem?_eq_some_iff.1 hb).1
    have hgb : g ≠ b := by have := hown.lt; have hz : (w.setCell ⟨sb, 0, none⟩ (.int .i64 nw)).heap.size = w.heap.size := by simp
                           omega
    have hnl : ∀ j, j < rs.length → (⟨(nameL D j).toArray⟩ : ByteArray).size ≤ maxLen := fun j hj => by
      have hm : rs.getD j [] ∈ rs := by rw [List.getD_eq_getElem?_getD, List.getElem?_eq_getElem hj]; exact List.getElem_mem hj
      rw [hnm]
      show (rs.getD j []).toArray.size ≤ maxLen
      simpa using hrs _ hm
    go_loopw [6] (fun v wr => ∃ i : Nat, v = .int .i64 i ∧ i ≤ k ∧ ∃ q, wr = w'.drewN q) (fun v _ => k - (intOf v).toNat)
    case atStart => exact ⟨0, rfl, Nat.zero_le _, 0, rfl⟩
    case round =>
      obtain ⟨i, rfl, hi, q, rfl⟩ := hrel
      by_cases hik : i < k
      · have hlt : (i : Int) < (rs.length : Int) := by omega
        have g1 : w'.cell? ⟨g, i, none⟩ = some (encStr (rs.getD i [])) := hcell i (by omega)
        have g2 : ∀ n, (Instr.lookup 41 (.map (some b)) (encStr (rs.getD i [])) false).run Try.prog (w'.drewN (q + n)) = .ok (.int .i64 (dueL D (rs.getD i []))) (w'.drewN (q + n)) := fun n => hlook i (q + n) (by omega)
        have g7 : ∀ n, (Instr.lookup 41 (.map (some b)) (encStr (rs.getD i [])) false).run Try.prog (w'.drewN n) = .ok (.int .i64 (dueL D (rs.getD i []))) (w'.drewN n) := fun n => hlook i n (by omega)
        have g6 : ∀ n, (Instr.lookup 41 (.map (some b)) (encStr (rs.getD i [])) false).run Try.prog ((w'.drewN q).drewN n) = .ok (.int .i64 (dueL D (rs.getD i []))) ((w'.drewN q).drewN n) := fun n => by rw [show (w'.drewN q).drewN n = w'.drewN (q + n) from by simp [World.drewN, Nat.add_assoc]]; exact g2 n
        have g3 := k2' i hik
        generalize rs.getD i [] = x at g1 g2 g3 g6 g7
        go_wp2_with fail
        go_quiet (fail)
        go_wp2
        exact ⟨⟨i + 1, rfl, by omega, q + nq, rfl⟩, by simp [intOf]; omega⟩
      · obtain rfl : i = k := by omega
        have g5 : ((i : Int).toNat) = i := rfl
        by_cases hkN : i < rs.length
        · have hlt : (i : Int) < (rs.length : Int) := by omega
          have g1 : w'.cell? ⟨g, i, none⟩ = some (encStr (rs.getD i [])) := hcell i (by omega)
          have g2 : ∀ n, (Instr.lookup 41 (.map (some b)) (encStr (rs.getD i [])) false).run Try.prog (w'.drewN (q + n)) = .ok (.int .i64 (dueL D (rs.getD i []))) (w'.drewN (q + n)) := fun n => hlook i (q + n) (by omega)
          have g7 : ∀ n, (Instr.lookup 41 (.map (some b)) (encStr (rs.getD i [])) false).run Try.prog (w'.drewN n) = .ok (.int .i64 (dueL D (rs.getD i []))) (w'.drewN n) := fun n => hlook i n (by omega)
          have g6 : ∀ n, (Instr.lookup 41 (.map (some b)) (encStr (rs.getD i [])) false).run Try.prog ((w'.drewN q).drewN n) = .ok (.int .i64 (dueL D (rs.getD i []))) ((w'.drewN q).drewN n) := fun n => by rw [show (w'.drewN q).drewN n = w'.drewN (q + n) from by simp [World.drewN, Nat.add_assoc]]; exact g2 n
          have g3 := k3' hkN
          have g8 : decide (dueL D (rs.getD i []) ≤ nw) = false := decide_eq_false g3
          generalize rs.getD i [] = x at g1 g2 g3 g6 g7 g8
          go_wp2_with fail
          go_quiet (fail)
          go_wp2
          go_loopw [51] (fun v wr => ∃ j : Nat, v = .int .i64 j ∧ j ≤ i ∧ wr.ownsMap Try.prog 9 (plainElem Try.prog 3) b n (delN D j) ∧ w'.grownBy wr (some b)) (fun v _ => i - (intOf v).toNat)
          case atStart => exact ⟨0, rfl, Nat.zero_le _, hown2, rfl, rfl, rfl, Nat.le_refl _, fun _ _ _ => rfl⟩
          case round =>
            obtain ⟨j, rfl, hj, hD, hG⟩ := hrel
            have e1 : wr.cell? ⟨sb, 1, none⟩ = some (.map (some b)) := (World.cell?_of_block (hG.block sb hsw (fun e => hne (by injection e)))).trans d1
            have e2 : j < i → wr.cell? ⟨g, j, none⟩ = some (encStr (nameL D j)) := fun h => (World.cell?_of_block (hG.block g hgw (fun e => hgb (by injection e)))).trans (by rw [hnm]; exact hcell j (by omega))
            generalize hx : nameL D j = x at e2
            go_wp2_with (first | (at_delete; refine wpList_delete_own _ rfl _ _ 41 9 rfl _ law9 Try.underlying41 _ b n _ rfl hD _ _ rfl (Go.WideMaps.keyOf_string_mk Try.underlying9 (s := ⟨x.toArray⟩) (by rw [← hx]; exact hnl j (by omega))) ?_; intro w1 hown3 hturn) | go_in)
            · have hg2 := hturn.grown
              refine ⟨⟨j + 1, rfl, by omega, ?_, hg2.os.trans hG.os, hg2.tape.trans hG.tape, hg2.output.trans hG.output, Nat.le_trans hG.size hg2.size, fun c hc h5 => (hg2.block c (Nat.lt_of_lt_of_le hc hG.size) h5).trans (hG.block c hc h5)⟩, by simp [intOf]; omega⟩
              show w1.ownsMap _ _ _ _ _ ((delN D j).del (.string (nameL D j)))
              rw [hx]
              simpa using hown3
            · obtain rfl : j = i := by omega
              go_ret
              refine ⟨_, rfl, ?_⟩
              rw [show nowT now t = nw from hnw]
              exact turn_end hown0 hne hown.lt hbel hG hD hkk hl hrow k1 hc1 hc2
        · have hlt : decide ((i : Int) < (rs.length : Int)) = false := decide_eq_false (by omega)
          go_wp2_with fail
          go_quiet (fail)
          go_wp2
          go_loopw [51] (fun v wr => ∃ j : Nat, v = .int .i64 j ∧ j ≤ i ∧ wr.ownsMap Try.prog 9 (plainElem Try.prog 3) b n (delN D j) ∧ w'.grownBy wr (some b)) (fun v _ => i - (intOf v).toNat)
          case atStart => exact ⟨0, rfl, Nat.zero_le _, hown2, rfl, rfl, rfl, Nat.le_refl _, fun _ _ _ => rfl⟩
          case round =>
            obtain ⟨j, rfl, hj, hD, hG⟩ := hrel
            have e1 : wr.cell? ⟨sb, 1, none⟩ = some (.map (some b)) := (World.cell?_of_block (hG.block sb hsw (fun e => hne (by injection e)))).trans d1
            have e2 : j < i → wr.cell? ⟨g, j, none⟩ = some (encStr (nameL D j)) := fun h => (World.cell?_of_block (hG.block g hgw (fun e => hgb (by injection e)))).trans (by rw [hnm]; exact hcell j (by omega))
            generalize hx : nameL D j = x at e2
            go_wp2_with (first | (at_delete; refine wpList_delete_own _ rfl _ _ 41 9 rfl _ law9 Try.underlying41 _ b n _ rfl hD _ _ rfl (Go.WideMaps.keyOf_string_mk Try.underlying9 (s := ⟨x.toArray⟩) (by rw [← hx]; exact hnl j (by omega))) ?_; intro w1 hown3 hturn) | go_in)
            · have hg2 := hturn.grown
              refine ⟨⟨j + 1, rfl, by omega, ?_, hg2.os.trans hG.os, hg2.tape.trans hG.tape, hg2.output.trans hG.output, Nat.le_trans hG.size hg2.size, fun c hc h5 => (hg2.block c (Nat.lt_of_lt_of_le hc hG.size) h5).trans (hG.block c hc h5)⟩, by simp [intOf]; omega⟩
              show w1.ownsMap _ _ _ _ _ ((delN D j).del (.string (nameL D j)))
              rw [hx]
              simpa using hown3
            · obtain rfl : j = i := by omega
              go_ret
              refine ⟨_, rfl, ?_⟩
              rw [show nowT now t = nw from hnw]
              exact turn_end hown0 hne hown.lt hbel hG hD hkk hl hrow k1 hc1 hc2
end Go.Proofs.Ytpbjknkbllcciaa
