/- Parts of a proof: CfF, CfG, CfH, CfJ, CfK, CfL, CfM, CfN, CfO, CfQ0, CfT, CfU, CfS0, CfS, CfV, CfW, CfZ, Facts. No conditions. -/
import Derived.Test.YtopeaafcepgnhaaGreatT5
import Derived.Deep.QuietTactic
import Derived.BigQuiet
import Derived.Deep.RegionHeld3
import Derived.ShutString
import Derived.OpenShut
import Derived.Test.YtopeaafcepgnhaaGreatRows
import Derived.JoinedOf
import Derived.KernelRfl
set_option linter.unusedVariables false
set_option linter.unusedSimpArgs false
namespace Go.Proofs.YtopeaafcepgnhaaGreat
open Go.RowKit Sym Go.ChangeShapes Go.WideShapes Go.ChangeMaps
theorem keeps_below {w w' : World} (h : Below w.heap.size w w') (bs : List Nat) : Keeps bs w w' := ⟨h.os, h.tape, h.output, h.size, fun k hk _ => h.block k hk⟩
theorem keeps_more {w w' : World} {bs cs : List Nat} (h : Keeps bs w w') (hs : ∀ b ∈ bs, b ∈ cs) : Keeps cs w w' := ⟨h.os, h.tape, h.output, h.size, fun k hk hn => h.block k hk fun g => hn (hs k g)⟩
theorem vec_keeps {w w' : World} {bs : List Nat} {e : TypeId} {sz n : Nat} {u : Value} {xs : List Value} (h : VecSat w e sz u n xs) (hk : Keeps bs w w') (hn : ∀ b, blockOf u = some b → b ∉ bs) : VecSat w' e sz u n xs :=
  h.kept hk.size fun b hb hl => hk.block b hl (hn b hb)
theorem CSat.frame {w w' : World} {X X' bs : List Nat} {k : Nat} {uo : Value} {c : Cs} (h : CSat w X k uo c) (hk : Keeps bs w w') (h1 : ∀ b ∈ bs, b ∈ X) (h2 : ∀ x ∈ X', (x ∈ X ∨ w.heap.size ≤ x) ∧ x < w'.heap.size) : CSat w' X' k uo c := by
  obtain ⟨ua, ug, qs, hc⟩ := h
  have hn : ∀ b ∈ bsOf k uo, b ∉ bs := fun b hb hx => (hc.old b (h1 b hx)).2 hb
  have hlow : ∀ b ∈ bsOf k uo, b < w.heap.size := fun b hb => by
    rcases bsOf_mem.1 hb with rfl | hb
    · exact hc.conn.own.1
    · exact hc.conn.q.lt hb
  have hr : ∀ {u : Value} {o : OL}, RowO w (bsOf k uo ++ X) u o → RowO w' (bsOf k uo ++ X') u o := fun h => h.kept hk (fun b hb => List.mem_append.2 (.inr (h1 b hb))) fun b hb => by
    rcases List.mem_append.1 hb with hb | hb
    · exact .inl (List.mem_append.2 (.inl hb))
    · exact (h2 b hb).1.imp (fun h => List.mem_append.2 (.inr h)) id
  refine ⟨ua, ug, qs, ⟨own_keeps hc.conn.own hk (hn k (bsOf_mem.2 (.inl rfl))), vec_keeps hc.conn.q hk fun b hb => hn b (bsOf_mem.2 (.inr hb)), hc.conn.sep⟩, hc.fst, hr hc.asks, hr hc.greets, fun q hq => hr (hc.opts q hq), fun x hx => ⟨(h2 x hx).2, fun hb => ?_⟩⟩
  rcases (h2 x hx).1 with g | g
  · exact (hc.old x g).2 hb
  · exact absurd (hlow x hb) (Nat.not_lt.2 g)
theorem RW.frame {w w' : World} {X X' bs : List Nat} {k : Nat} {uo ua ug : Value} {c : Cs} {le tr : Int} {qs : List (QP × Value)} (hc : RW w X k uo c ua ug le tr qs) (hk : Keeps bs w w') (h1 : ∀ b ∈ bs, b ∈ X) (h2 : ∀ x ∈ X', (x ∈ X ∨ w.heap.size ≤ x) ∧ x < w'.heap.size) : RW w' X' k uo c ua ug le tr qs := by
  have hn : ∀ b ∈ bsOf k uo, b ∉ bs := fun b hb hx => (hc.old b (h1 b hx)).2 hb
  have hlow : ∀ b ∈ bsOf k uo, b < w.heap.size := fun b hb => by
    rcases bsOf_mem.1 hb with rfl | hb
    · exact hc.own.1
    · exact hc.q.lt hb
  have hr : ∀ {u : Value} {o : OL}, RowO w (bsOf k uo ++ X) u o → RowO w' (bsOf k uo ++ X') u o := fun h => h.kept hk (fun b hb => List.mem_append.2 (.inr (h1 b hb))) fun b hb => by
    rcases List.mem_append.1 hb with hb | hb
    · exact .inl (List.mem_append.2 (.inl hb))
    · exact (h2 b hb).1.imp (fun h => List.mem_append.2 (.inr h)) id
  refine ⟨own_keeps hc.own hk (hn k (bsOf_mem.2 (.inl rfl))), vec_keeps hc.q hk fun b hb => hn b (bsOf_mem.2 (.inr hb)), hc.sep, hc.wt, hc.fst, hr hc.asks, hr hc.greets, fun q hq => hr (hc.opts q hq), fun x hx => ⟨(h2 x hx).2, fun hb => ?_⟩⟩
  rcases (h2 x hx).1 with g | g
  · exact (hc.old x g).2 hb
  · exact absurd (hlow x hb) (Nat.not_lt.2 g)
theorem RSat.frame {w w' : World} {X X' bs : List Nat} {k : Nat} {uo : Value} {c : Cs} (h : RSat w X k uo c) (hk : Keeps bs w w') (h1 : ∀ b ∈ bs, b ∈ X) (h2 : ∀ x ∈ X', (x ∈ X ∨ w.heap.size ≤ x) ∧ x < w'.heap.size) : RSat w' X' k uo c := by
  obtain ⟨ua, ug, le, tr, qs, hc⟩ := h
  exact ⟨ua, ug, le, tr, qs, hc.frame hk h1 h2⟩
theorem RW.below {w w' : World} {X : List Nat} {k : Nat} {uo ua ug : Value} {c : Cs} {le tr : Int} {qs : List (QP × Value)} (hc : RW w X k uo c ua ug le tr qs) (hb : Below w.heap.size w w') : RW w' X k uo c ua ug le tr qs :=
  hc.frame (keeps_below hb []) (fun _ h => by cases h) fun x hx => ⟨.inl hx, Nat.lt_of_lt_of_le (hc.old x hx).1 hb.size⟩
theorem keeps_set (w : World) (k i : Nat) (v : Value) : Keeps [k] w (w.setCell ⟨k, i, none⟩ v) :=
  ⟨rfl, rfl, rfl, by simp, fun j _ hj => heap_setCell_other w ⟨k, i, none⟩ j _ fun e => hj (by simp [e])⟩
theorem rw_greets {w : World} {X : List Nat} {k : Nat} {uo ua ug u : Value} {c : Cs} {le tr : Int} {qs : List (QP × Value)} {o : OL} (hc : RW w X k uo c ua ug le tr qs) (hr : RowO w (bsOf k uo ++ X) u o) : RW (w.setCell ⟨k, 9, none⟩ u) X k uo { c with greets := o } ua u le tr qs := by
  have hk := keeps_set w k 9 u
  have hr' : ∀ {u : Value} {o : OL}, RowO w (bsOf k uo ++ X) u o → RowO (w.setCell ⟨k, 9, none⟩ u) (bsOf k uo ++ X) u o := fun h => h.kept (keeps_set _ _ _ _) (fun b hb => by rw [List.mem_singleton.1 hb]; exact List.mem_append.2 (.inl (bsOf_mem.2 (.inl rfl)))) fun b hb => .inl hb
  have hr'' : ∀ {u' : Value} {o : OL}, RowO w (bsOf k uo ++ X) u' o → RowO (w.setCell ⟨k, 9, none⟩ u) (bsOf k uo ++ X) u' o := fun h => h.kept hk (fun b hb => by rw [List.mem_singleton.1 hb]; exact List.mem_append.2 (.inl (bsOf_mem.2 (.inl rfl)))) fun b hb => .inl hb
  refine ⟨own_conv (own_set hc.own 9 (by simp [rsV15]) u) (by simp [rsV15]), vec_keeps hc.q hk fun b hb hx => hc.sep (by rw [hb, List.mem_singleton.1 hx]), hc.sep, hc.wt, hc.fst, hr'' hc.asks, hr'' hr, fun q hq => hr'' (hc.opts q hq), fun x hx => ⟨by simpa using (hc.old x hx).1, (hc.old x hx).2⟩⟩
theorem RPost.trans {w w1 w2 : World} {X : List Nat} {k : Nat} {uo uo1 : Value} {c : Cs} (hk : Keeps (bsOf k uo) w w1) (hb : ∀ b, blockOf uo1 = some b → blockOf uo = some b ∨ w.heap.size ≤ b) (h : RPost w1 X k uo1 c w2) : RPost w X k uo c w2 := by
  obtain ⟨uo', hs, hk2, hb2⟩ := h
  refine ⟨uo', hs, ⟨hk2.os.trans hk.os, hk2.tape.trans hk.tape, hk2.output.trans hk.output, Nat.le_trans hk.size hk2.size, fun j hj hn => ?_⟩, fun b hb' => ?_⟩
  · refine (hk2.block j (Nat.lt_of_lt_of_le hj hk.size) fun g => ?_).trans (hk.block j hj hn)
    rcases bsOf_mem.1 g with rfl | g
    · exact hn (bsOf_mem.2 (.inl rfl))
    · rcases hb j g with e | e
      · exact hn (bsOf_mem.2 (.inr e))
      · exact absurd hj (Nat.not_lt.2 e)
  · rcases hb2 b hb' with e | e
    · exact hb b e
    · exact .inr (Nat.le_trans hk.size e)
theorem greets_inv {c : Cs} (hi : CInv c) {o : OL} (ho : o.few ∧ o.n ≤ 100) : CInv { c with greets := o } := ⟨hi.st, hi.wait, hi.li, hi.asks, ho, hi.outs⟩
set_option maxRecDepth 100000 in
set_option maxHeartbeats 4000000 in
theorem rgreet_any {w : World} {X : List Nat} {k : Nat} {uo : Value} {c : Cs} (hs : RSat w X k uo c) (hi : CInv c) {u : Value} {o : OL} (hr : RowO w (bsOf k uo ++ X) u o) (hf : o.few ∧ o.n ≤ 100) : Calls Tryz.prog 40 #[ptrV k, u] w fun e w' => e = .returned (.int .i64 (c.greet o).2) ∧ RPost w X k uo (c.greet o).1 w' := by
  obtain ⟨ua, ug, le, tr, qs, hc⟩ := hs
  have hst : w.cell? ⟨k, 1, none⟩ = some (.int .i64 c.st) := by
    have := hc.own.2.1 1
    simpa [rsV15] using this
  have h9 : w.cell? ⟨k, 9, none⟩ = some ug := by
    have := hc.own.2.1 9
    simpa [rsV15] using this
  have hself : RPost w X k uo c w := ⟨uo, ⟨ua, ug, le, tr, qs, hc⟩, .refl _ _, fun b hb => .inl hb⟩
  unfold Cs.greet
  obtain ⟨pu, lu, cu, rfl⟩ := rowO_slice hr
  by_cases h2 : c.st = 2
  · rw [if_pos h2]
    rw [h2] at hst
    have hck := ref07_Check o.n o.g hf.1 _ w hr.row
    by_cases h0 : chkO o.n o.g = 0
    · rw [if_pos h0]
      rw [h0] at hck
      go_enter Tryz.func40, Tryz.ntmps40
      go_wp2_with (first
        | (go_at_call 37; refine hck.mono ?_; rintro e w1 ⟨rfl, hb1⟩; have hc1 := hc.below hb1; have hf9 := hc1.own.2.2 9; have h91 := old_cell hb1 h9; have hr1 : RowO w1 (bsOf k uo ++ X) (.slice pu lu cu) o := hr.kept (keeps_below hb1 []) (fun _ h => by cases h) fun _ h => .inl h; have hc2 := rw_greets hc1 hr1)
        | (go_at_call 39; refine (rsay_any ⟨_, _, _, _, _, hc2⟩ (greets_inv hi hf)).mono ?_; rintro e w3 ⟨rfl, uo3, hs3, hk3, hb3⟩)
        | (go_at_call 38; refine (rwait_any hs3).mono ?_; rintro e w4 ⟨rfl, hp4⟩))
      go_ret
      refine ⟨rfl, ?_⟩
      have hk01 : Keeps (bsOf k uo) w (w1.setCell ⟨k, 9, none⟩ (.slice pu lu cu)) := (keeps_below hb1 _).trans (keeps_more (keeps_set w1 k 9 _) fun b hb => by rw [List.mem_singleton.1 hb]; exact bsOf_mem.2 (.inl rfl))
      refine RPost.trans hk01 (fun b hb => .inl hb) (RPost.trans hk3 hb3 hp4)
    · rw [if_neg h0]
      have h0' : (chkO o.n o.g) ≠ 0 := h0
      generalize chkO o.n o.g = ck at *
      go_enter Tryz.func40, Tryz.ntmps40
      go_wp2_with (first
        | (go_at_call 37; refine hck.mono ?_; rintro e w1 ⟨rfl, hb1⟩))
      go_ret
      exact ⟨rfl, uo, ⟨ua, ug, le, tr, qs, hc.below hb1⟩, keeps_below hb1 _, fun b hb => .inl hb⟩
  · rw [if_neg h2]
    generalize c.st = st at *
    go_enter Tryz.func40, Tryz.ntmps40
    go_wp2
    go_ret
    exact ⟨rfl, hself⟩
theorem rself {w w1 : World} {X : List Nat} {k : Nat} {uo ua ug : Value} {c : Cs} {le tr : Int} {qs : List (QP × Value)} (hc : RW w X k uo c ua ug le tr qs) (hb : Below w.heap.size w w1) : RPost w X k uo c w1 := ⟨uo, ⟨ua, ug, le, tr, qs, hc.below hb⟩, keeps_below hb _, fun b hb => .inl hb⟩
theorem sayP_no {c : Cs} {k : Int} {l : OL} {d : ByteArray} {r e : Int} (h : c.sayE k l d = e) (h0 : e ≠ 0) : c.sayP k l d r = (c, 0, e) := by
  unfold Cs.sayP
  rw [h, if_neg h0]
set_option maxRecDepth 100000 in
set_option maxHeartbeats 4000000 in
theorem rsay_sX {w : World} {X : List Nat} {k : Nat} {uo : Value} {c : Cs} (hs : RSat w X k uo c) (kd : Int) (hb : ¬ c.mayK kd = 0) (u : Value) (o : OL) (d : ByteArray) (ra : Int) : Calls Tryz.prog 41 #[ptrV k, .int .i64 kd, u, .string d, .int .i64 ra] w fun e w' => e = .returned (.tuple #[.int .i64 (c.sayP kd o d ra).2.1, .int .i64 (c.sayP kd o d ra).2.2]) ∧ RPost w X k uo (c.sayP kd o d ra).1 w' := by
  obtain ⟨ua, ug, le, tr, qs, hc⟩ := hs
  have hst : w.cell? ⟨k, 1, none⟩ = some (.int .i64 c.st) := by
    have := hc.own.2.1 1
    simpa [rsV15] using this
  have hself := rself hc (Below.refl _ _)
  have hE : c.sayE kd o d = c.mayK kd := by unfold Cs.sayE; rw [if_pos hb]
  rw [sayP_no hE hb]
  unfold Cs.mayK at hb ⊢
  by_cases hk : kd = 2 ∨ kd = 3 ∨ kd = 4
  · rw [if_neg (not_not_intro hk)] at hb ⊢
    by_cases ho : c.st = 3 ∨ c.st = 2 ∧ kd = 3
    · rw [if_pos ho] at hb; exact absurd rfl hb
    rw [if_neg ho]
    clear hE hb
    generalize c.st = st at *
    have h3 : st ≠ 3 := fun e => ho (.inl e)
    by_cases h2 : st = 2
    · subst h2
      have h33 : kd ≠ 3 := fun e => ho (.inr ⟨rfl, e⟩)
      rcases (by omega : kd = 2 ∨ kd = 4) with rfl | rfl
      · go_enter Tryz.func41, Tryz.ntmps41
        go_wp2
        go_ret2
        exact ⟨rfl, hself⟩
      · go_enter Tryz.func41, Tryz.ntmps41
        go_wp2
        go_ret2
        exact ⟨rfl, hself⟩
    · rcases hk with rfl | rfl | rfl
      · go_enter Tryz.func41, Tryz.ntmps41
        go_wp2
        go_ret2
        exact ⟨rfl, hself⟩
      · go_enter Tryz.func41, Tryz.ntmps41
        go_wp2
        go_ret2
        exact ⟨rfl, hself⟩
      · go_enter Tryz.func41, Tryz.ntmps41
        go_wp2
        go_ret2
        exact ⟨rfl, hself⟩
  · rw [if_pos hk]
    by_cases hlo : kd < 2
    · go_enter Tryz.func41, Tryz.ntmps41
      go_wp2
      go_ret2
      exact ⟨rfl, hself⟩
    · have hhi : kd > 4 := by omega
      go_enter Tryz.func41, Tryz.ntmps41
      go_wp2
      go_ret2
      exact ⟨rfl, hself⟩
theorem ba_lenS (d : ByteArray) : d.toList.length = d.size := by
  have : ∀ (i : Nat) (r : List UInt8), i ≤ d.size → (ByteArray.toList.loop d i r).length = r.length + (d.size - i) := by
    intro i r hi
    generalize hk : d.size - i = k
    induction k generalizing i r with
    | zero => rw [ByteArray.toList.loop, if_neg (by omega)]; simp
    | succ k ih => rw [ByteArray.toList.loop, if_pos (by omega), ih (i + 1) _ (by omega) (by omega)]; simp; omega
  rw [ByteArray.toList, this 0 [] (by omega)]; simp
theorem ba_some {d : ByteArray} (h : ¬ d.size = 0) : d.toList.isEmpty = false := by
  cases e : d.toList with
  | nil => exfalso; apply h; rw [← ba_lenS, e]; rfl
  | cons a l => rfl
theorem ratio_eq2 (ra : Int) : (if 15 < if ra < 0 then 0 else ra then 15 else if ra < 0 then 0 else ra) = min (max ra 0) 15 := by
  split <;> split at * <;> omega
theorem str_empty (d : ByteArray) : d = ⟨⟨[]⟩⟩ ↔ d.size = 0 := ba_empty d
set_option maxRecDepth 100000 in
set_option maxHeartbeats 4000000 in
theorem rsay_s3 {w : World} {X : List Nat} {k : Nat} {uo : Value} {c : Cs} (hs : RSat w X k uo c) (hst3 : c.st = 3) (kd : Int) (hk : kd = 2 ∨ kd = 3 ∨ kd = 4) {u : Value} {o : OL} (hr : RowO w (bsOf k uo ++ X) u o) (hf : o.few) (d : ByteArray) (hd : d.size ≤ 1000000) (ra : Int) : Calls Tryz.prog 41 #[ptrV k, .int .i64 kd, u, .string d, .int .i64 ra] w fun e w' => e = .returned (.tuple #[.int .i64 (c.sayP kd o d ra).2.1, .int .i64 (c.sayP kd o d ra).2.2]) ∧ RPost w X k uo (c.sayP kd o d ra).1 w' := by
  obtain ⟨ua, ug, le, tr, qs, hc⟩ := hs
  obtain ⟨pu, lu, cu, rfl⟩ := rowO_slice hr
  have hst : w.cell? ⟨k, 1, none⟩ = some (.int .i64 3) := by
    have := hc.own.2.1 1
    simpa [rsV15, hst3] using this
  have hg6 : w.cell? ⟨k, 6, none⟩ = some (.int .i64 c.gsr) := by
    have := hc.own.2.1 6
    simpa [rsV15] using this
  have hO : c.sayO o = o := by unfold Cs.sayO; rw [if_neg (by omega)]
  have hM : c.mayK kd = 0 := by unfold Cs.mayK; rw [if_neg (not_not_intro hk), if_pos (.inl hst3)]
  have hE : c.sayE kd o d = if ¬ chkO o.n o.g = 0 then chkO o.n o.g else if d.size > 200 then 11 else if kd = 3 ∧ ¬ d.size = 0 then 4 else 0 := by
    unfold Cs.sayE
    rw [hM, hO, if_neg (by decide)]
  have hck := ref07_Check o.n o.g hf _ w hr.row
  by_cases h0 : chkO o.n o.g = 0
  rotate_left
  · rw [sayP_no (hE.trans (if_pos h0)) h0]
    generalize chkO o.n o.g = ck at *
    clear hE
    rcases hk with rfl | rfl | rfl
    all_goals
      go_enter Tryz.func41, Tryz.ntmps41
      go_wp2_with (first
        | (go_at_call 37; refine hck.mono ?_; rintro e w1 ⟨rfl, hb1⟩))
      go_ret2
      exact ⟨rfl, rself hc hb1⟩
  rw [if_neg (not_not_intro h0)] at hE
  rw [h0] at hck
  clear h0
  by_cases hl : d.size > 200
  · rw [if_pos hl] at hE
    rw [sayP_no hE (by decide)]
    have hl' : (d.size : Int) > 200 := by omega
    rcases hk with rfl | rfl | rfl
    all_goals
      go_enter Tryz.func41, Tryz.ntmps41
      go_wp2_with (first
        | (go_at_call 37; refine hck.mono ?_; rintro e w1 ⟨rfl, hb1⟩))
      go_ret2
      exact ⟨rfl, rself hc hb1⟩
  rw [if_neg hl] at hE
  have hl' : ¬ (d.size : Int) > 200 := by omega
  by_cases h3 : kd = 3 ∧ ¬ d.size = 0
  · rw [if_pos h3] at hE
    rw [sayP_no hE (by decide)]
    obtain ⟨rfl, hd0⟩ := h3
    have hd1 := ba_some hd0
    go_enter Tryz.func41, Tryz.ntmps41
    go_wp2_with (first
      | (go_at_call 37; refine hck.mono ?_; rintro e w1 ⟨rfl, hb1⟩))
    go_ret2
    exact ⟨rfl, rself hc hb1⟩
  rw [if_neg h3] at hE
  have hS : c.sayP kd o d ra = (c.send kd o d c.gsr 0 (min (max ra 0) 15), Circ.add c.gss 1, 0) := by
    unfold Cs.sayP
    rw [if_pos hE, hO]
  rw [hS]
  clear hE hS
  rcases hk with rfl | rfl | rfl
  rotate_left
  · have hd1 : d = ⟨⟨[]⟩⟩ := (str_empty d).2 (Decidable.of_not_not fun g => h3 ⟨rfl, g⟩)
    subst hd1
    go_enter Tryz.func41, Tryz.ntmps41
    go_wp2_with (first
      | (go_at_call 37; refine hck.mono ?_; rintro e w1 ⟨rfl, hb1⟩; have hg61 := old_cell hb1 hg6; have hr1 : RowO w1 (bsOf k uo ++ X) (.slice pu lu cu) o := hr.kept (keeps_below hb1 []) (fun _ h => by cases h) fun _ h => .inl h)
      | (go_at_call 74; refine (rsend_any ⟨_, _, _, _, _, hc.below hb1⟩ _ hr1 _ _ _ _).mono ?_; rintro e w2 ⟨rfl, hp2⟩))
    all_goals (rw [ratio_eq2] at hp2; go_ret2; exact ⟨rfl, RPost.trans (keeps_below hb1 _) (fun b hb => .inl hb) hp2⟩)
  · go_enter Tryz.func41, Tryz.ntmps41
    go_wp2_with (first
      | (go_at_call 37; refine hck.mono ?_; rintro e w1 ⟨rfl, hb1⟩; have hg61 := old_cell hb1 hg6; have hr1 : RowO w1 (bsOf k uo ++ X) (.slice pu lu cu) o := hr.kept (keeps_below hb1 []) (fun _ h => by cases h) fun _ h => .inl h)
      | (go_at_call 74; refine (rsend_any ⟨_, _, _, _, _, hc.below hb1⟩ _ hr1 _ _ _ _).mono ?_; rintro e w2 ⟨rfl, hp2⟩))
    all_goals (rw [ratio_eq2] at hp2; go_ret2; exact ⟨rfl, RPost.trans (keeps_below hb1 _) (fun b hb => .inl hb) hp2⟩)
  · go_enter Tryz.func41, Tryz.ntmps41
    go_wp2_with (first
      | (go_at_call 37; refine hck.mono ?_; rintro e w1 ⟨rfl, hb1⟩; have hg61 := old_cell hb1 hg6; have hr1 : RowO w1 (bsOf k uo ++ X) (.slice pu lu cu) o := hr.kept (keeps_below hb1 []) (fun _ h => by cases h) fun _ h => .inl h)
      | (go_at_call 74; refine (rsend_any ⟨_, _, _, _, _, hc.below hb1⟩ _ hr1 _ _ _ _).mono ?_; rintro e w2 ⟨rfl, hp2⟩))
    all_goals (rw [ratio_eq2] at hp2; go_ret2; exact ⟨rfl, RPost.trans (keeps_below hb1 _) (fun b hb => .inl hb) hp2⟩)
attribute [local irreducible] canT
theorem cells_row {L : List Value} {m : Nat} (h : L.length = m * 2) : L = rowCells m 2 fun i j => cellAt L (i * 2 + j) := by
  refine List.ext_getElem? fun k => ?_
  by_cases hk : k < m * 2
  · have hlt : k < (rowCells m 2 fun i j => cellAt L (i * 2 + j)).length := by rw [rowCells_length]; exact hk
    obtain ⟨-, -, e⟩ := rowCells_get _ _ _ (List.getElem?_eq_getElem hlt)
    rw [List.getElem?_eq_getElem hlt, e, List.getElem?_eq_getElem (by omega)]
    show some _ = some (L.getD (k / 2 * 2 + k % 2) undef)
    rw [show k / 2 * 2 + k % 2 = k by omega, List.getD_eq_getElem?_getD, List.getElem?_eq_getElem (by omega)]
    rfl
  · rw [List.getElem?_eq_none (by omega), List.getElem?_eq_none (by rw [rowCells_length]; omega)]
theorem tells_cat {H' : List Blk} {i m1 m2 : Nat} {f1 f2 : Nat → Nat → Value} (h1 : OpP m1 f1) (h2 : OpP m2 f2) (h : H'[i]? = some (.vec false 64 2 (m1 + m2) ([] ++ rowCells m1 2 f1 ++ rowCells m2 2 f2))) : RowTells H' i ((OL.mk m1 (opF f1)).cat ⟨m2, opF f2⟩) := by
  have hl : ([] ++ rowCells m1 2 f1 ++ rowCells m2 2 f2).length = (m1 + m2) * 2 := by
    rw [List.nil_append, List.length_append, rowCells_length, rowCells_length]; omega
  rw [cells_row hl] at h
  exact ⟨catF m1 m2 f1 f2, h, fun a b ha hb => by rw [catF_all h1.1 h2.1 a ha b hb, catF_op f1 f2 ha]⟩
def RSay2 (c0 : Cs) (xs : List Value) (ua ug : Value) (s : Cs × Int × Int) (r : SV × List Blk) : Prop :=
  r.1.to [] = some (.tuple #[.int .i64 s.2.1, .int .i64 s.2.2]) ∧ ∃ (a0 a1 a2 a3 a4 a5 a6 a7 a8 a9 a10 a11 a12 a13 a14 : SV) (le tr : Int) (j : Nat), r.2[0]? = some (.own [a0, a1, a2, a3, a4, a5, a6, a7, a8, a9, a10, a11, a12, a13, a14, .ref j]) ∧
    (∀ B : List Value, B[2]? = some ug → SV.tos B [a0, a1, a2, a3, a4, a5, a6, a7, a8, a9, a10, a11, a12, a13, a14] = some (rsV15 s.1 ua ug le tr)) ∧ (s.1.wa = 0 ∨ le = s.1.le ∧ tr = s.1.tr) ∧ s.1.asks = c0.asks ∧ s.1.greets = c0.greets ∧
    ((r.2[j]? = some (.vec false 36 13 c0.outs.length xs) ∧ s.1.outs = c0.outs) ∨
     ∃ (q : QP) (cells : List SV) (i : Nat), r.2[j]? = some (.que 36 13 (c0.outs.length + 1) xs cells) ∧ s.1.outs = c0.outs ++ [q] ∧ (∀ (B : List Value) (u : Value), B[i]? = some u → SV.tos B cells = some (q.p.l u)) ∧ RowTells r.2 i q.o)
set_option maxRecDepth 100000 in
set_option maxHeartbeats 4000000 in
theorem rsay2_tree (c : Cs) (ua ug : Value) (le tr : Int) (n : Nat) (xs : List Value) (m1 m2 : Nat) (f1 f2 : Nat → Nat → Value) (d : ByteArray) (ra : Int) (hst : c.st = 2) (hn : n = c.outs.length) (hw : c.wa = 0 ∨ le = c.le ∧ tr = c.tr) (hx : allOneP xs) (hop1 : OpP m1 f1) (hop2 : OpP m2 f2) (hmm : m1 + m2 ≤ 1000) (hg : c.greets = ⟨m1, opF f1⟩) :
    (canT 4 (runF Tryz.prog (CH1 Tryz.prog (RfFn.mk Tryz.f31 Tryz.f16 Tryz.f38 Tryz.f75 Tryz.f39 Tryz.f76) Tryz.f74) noL Tryz.f41 (Tryz.f41.body.getD .skip) [.ptr 0 0, .c (.int .i64 3), .ref 3, .v (.string d), .v (.int .i64 ra)] [.own (rsT c (.c (.int .i64 2)) (.v ua) (.ref 2) le tr (.ref 1)), .vec false 36 13 n xs, .row m1 2 f1, .row m2 2 f2])).ok (RSay2 c xs ua ug (c.sayP 3 ⟨m2, opF f2⟩ d ra)) := by
  rw [rsay2_run c ua ug le tr n xs m1 m2 f1 f2 d ra]
  obtain ⟨cl, st, iss, isr, gss, gsr, gar, sv, asks, greets, wa, cle, ctr, sy, li, outs⟩ := c
  dsimp only at hst hn hg hw
  subst hst
  subst hn
  subst hg
  dsimp only
  have h0 : 0 + m1 = m1 := Nat.zero_add _
  have hn0 : 0 + outs.length = outs.length := Nat.zero_add _
  simp only [h0, hn0, of_next]
  have hcf : (fun i j => cellAt ([] ++ rowCells m1 2 f1 ++ rowCells m2 2 f2) (i * 2 + j)) = catF m1 m2 f1 f2 := rfl
  rw [hcf]
  have hopc := catF_opP hop1 hop2 hmm
  have h1p := all_oneD hop1.1
  have h2p := all_oneD hop2.1
  have hra := ratio_eq ra
  generalize (if 15 < if 0 > ra then 0 else ra then 15 else if 0 > ra then 0 else ra) = rt at hra ⊢
  subst hra
  generalize hr : Cs.sayP _ _ _ _ _ = rr
  have hO : Cs.sayO (Cs.mk cl 2 iss isr gss gsr gar sv asks ⟨m1, opF f1⟩ wa cle ctr sy li outs) ⟨m2, opF f2⟩ = (OL.mk m1 (opF f1)).cat ⟨m2, opF f2⟩ := if_pos rfl
  have hM : Cs.mayK (Cs.mk cl 2 iss isr gss gsr gar sv asks ⟨m1, opF f1⟩ wa cle ctr sy li outs) 3 = 0 := by unfold Cs.mayK; rw [if_neg (by decide), if_pos (.inr ⟨rfl, rfl⟩)]
  have hC : chkO ((OL.mk m1 (opF f1)).cat ⟨m2, opF f2⟩).n ((OL.mk m1 (opF f1)).cat ⟨m2, opF f2⟩).g = chkO (m1 + m2) (opF (catF m1 m2 f1 f2)) := chkO_congr fun i hi => (catF_op f1 f2 hi).symm
  have hE : Cs.sayE (Cs.mk cl 2 iss isr gss gsr gar sv asks ⟨m1, opF f1⟩ wa cle ctr sy li outs) 3 ⟨m2, opF f2⟩ d = if ¬ chkO (m1 + m2) (opF (catF m1 m2 f1 f2)) = 0 then chkO (m1 + m2) (opF (catF m1 m2 f1 f2)) else if d.size > 200 then 11 else if (3 : Int) = 3 ∧ ¬ d.size = 0 then 4 else 0 := by
    unfold Cs.sayE
    rw [hM, hO, if_neg (by decide), hC]
  generalize hcatf : catF m1 m2 f1 f2 = cf at *
  have big : ((d.size : Int) > 200) ↔ d.size > 200 := by omega
  have emp : d = ByteArray.mk (Array.mk []) ↔ d.size = 0 := ba_empty d
  refine t_need ⟨by omega, by omega⟩ (t_need h1p (t_need ⟨by omega, by omega⟩ (t_need h2p (t_need hopc (t_ite (fun h => t_leaf ?_) fun h => ?_)))))
  · have h0 : ¬ chkO (m1 + m2) (opF cf) = 0 := by simpa using h
    rw [if_pos h0] at hE
    rw [sayP_no hE h0] at hr
    subst hr
    exact ⟨rfl, _, _, _, _, _, _, _, _, _, _, _, _, _, _, _, le, tr, 1, rfl, fun B hB => by simp only [SV.tos, SV.to, hB]; rfl, hw, rfl, rfl, .inl ⟨rfl, rfl⟩⟩
  rw [if_neg (by simpa using h)] at hE
  refine t_ite (fun h => t_leaf ?_) fun h => ?_
  · rw [if_pos (big.1 (by simpa using h))] at hE
    rw [sayP_no hE (by decide)] at hr
    subst hr
    exact ⟨rfl, _, _, _, _, _, _, _, _, _, _, _, _, _, _, _, le, tr, 1, rfl, fun B hB => by simp only [SV.tos, SV.to, hB]; rfl, hw, rfl, rfl, .inl ⟨rfl, rfl⟩⟩
  rw [if_neg (fun e => by simp only [decide_eq_false_iff_not] at h; exact h (big.2 e))] at hE
  refine t_ite (fun h => t_leaf ?_) fun h => ?_
  · rw [if_pos ⟨rfl, fun e => by simp [emp.2 e] at h⟩] at hE
    rw [sayP_no hE (by decide)] at hr
    subst hr
    exact ⟨rfl, _, _, _, _, _, _, _, _, _, _, _, _, _, _, _, le, tr, 1, rfl, fun B hB => by simp only [SV.tos, SV.to, hB]; rfl, hw, rfl, rfl, .inl ⟨rfl, rfl⟩⟩
  rw [if_neg (fun e => e.2 (emp.1 (by simpa using h)))] at hE
  have hS : Cs.sayP (Cs.mk cl 2 iss isr gss gsr gar sv asks ⟨m1, opF f1⟩ wa cle ctr sy li outs) 3 ⟨m2, opF f2⟩ d ra = ((Cs.mk cl 2 iss isr gss gsr gar sv asks ⟨m1, opF f1⟩ wa cle ctr sy li outs).send 3 ((OL.mk m1 (opF f1)).cat ⟨m2, opF f2⟩) d gsr 0 (min (max ra 0) 15), Circ.add gss 1, 0) := by
    unfold Cs.sayP
    rw [if_pos hE, hO]
  rw [hS] at hr
  subst hr
  subst hcatf
  refine t_ite (fun _ => t_ite (fun h' => ?_) fun h' => t_leaf ?_) fun h => by cases h
  · have hlt : outs.length < 50 := by simp only [decide_eq_true_eq] at h'; omega
    have hA : ∀ x : Value, x.oneCell' = true → allOneP [x] := fun x h => allOne_cons' h allOne_nil'
    repeat' (first | (with_reducible refine t_need ?_ ?_) | (with_reducible refine t_leaf ?_))
    all_goals first
      | (refine ⟨?_, ?_⟩ <;> omega)
      | (exact hx)
      | (exact allOne_cons' rfl allOne_nil')
      | (exact ⟨⟨by omega, by omega⟩, hx, ⟨by omega, by omega⟩, allOne_cons' rfl allOne_nil', allOne_cons' rfl allOne_nil', allOne_cons' rfl allOne_nil', allOne_cons' rfl allOne_nil', rfl⟩)
      | skip
    exact ⟨rfl, _, _, _, _, _, _, _, _, _, _, _, _, _, _, _, le, tr, _, rfl, fun B hB => by simp only [SV.tos, SV.to, hB]; rfl, hw, rfl, rfl, .inr ⟨_, _, 5, rfl, send_room hlt, fun B u hu => by simp only [SV.tos, SV.to, hu]; rfl, tells_cat hop1 hop2 rfl⟩⟩
  · have hlt : ¬ outs.length < 50 := by simp only [decide_eq_false_iff_not] at h'; omega
    exact ⟨rfl, _, _, _, _, _, _, _, _, _, _, _, _, _, _, _, le, tr, 1, rfl, fun B hB => by simp only [SV.tos, SV.to, hB]; rfl, hw, rfl, rfl, .inl ⟨rfl, send_full hlt⟩⟩
theorem rsay_s2 {w : World} {X : List Nat} {k : Nat} {uo : Value} {c : Cs} (hs : RSat w X k uo c) (hi : CInv c) (hst : c.st = 2) {u : Value} {o : OL} (hr : RowO w (bsOf k uo ++ X) u o) (hf : o.few) (hn : o.n ≤ 100) (d : ByteArray) (ra : Int) : Calls Tryz.prog 41 #[ptrV k, .int .i64 3, u, .string d, .int .i64 ra] w fun e w' => e = .returned (.tuple #[.int .i64 (c.sayP 3 o d ra).2.1, .int .i64 (c.sayP 3 o d ra).2.2]) ∧ RPost w X k uo (c.sayP 3 o d ra).1 w' := by
  obtain ⟨ua, ug, le, tr, qs, hc⟩ := hs
  have hm0 := mem_add_row (mem_add_row (rmem hc) hc.greets) hr
  have hm : Mem w (bsOf k uo) [.own (rsT c (.c (.int .i64 2)) (.v ua) (.ref 2) le tr (.ref 1)), .vec false 36 13 c.outs.length (flatQ qs), .row c.greets.n 2 (fR c.greets), .row o.n 2 (fR o)] [ptrV k, uo, ug, u] w := mem_cells (vs := rsV15 c ua ug le tr ++ [uo]) hm0 rfl (by unfold rsT rsV15; rw [hst]; rfl)
  have ht := (rsay2_tree c ua ug le tr c.outs.length (flatQ qs) c.greets.n o.n (fR c.greets) (fR o) d ra hst rfl hc.wt (rpre hc hi).hx (opP_fR hi.greets.1) (opP_fR hf) (by have := hi.greets.2; omega) (eta_fR _).symm)
  rw [eta_fR] at ht
  refine (canT_okn CH1_ok follows Tryz.func41 (by kernel_rfl) (lexAllF_ok (by kernel_rfl)) (noloops (by kernel_rfl)) ht rfl hm rfl).mono ?_
  rintro e w' ⟨s, H', B', x, ⟨h0, a0, a1, a2, a3, a4, a5, a6, a7, a8, a9, a10, a11, a12, a13, a14, le', tr', j, h1, h2, hw', hA, hG, hq⟩, hp, rfl, hx, hm'⟩
  have hug : B'[2]? = some ug := getElem?_prefix hp rfl
  refine ⟨by rw [val_eq h0 hx], ?_⟩
  rcases hq with ⟨hj, ho⟩ | ⟨q, cells, i, hj, ho, hc2, hR⟩
  · obtain ⟨uq, hq, g3, hne, hnew, hold, hkeep, -⟩ := roff_core hc hm' hp rfl h1 (h2 _ hug) hj rfl (fun _ e => by cases e) (fun _ _ e => by cases e)
    have hv' : VecSat w' 36 13 uq c.outs.length (flatQ qs) := hm'.sat.blk j _ uq hj hq
    exact ⟨uq, ⟨ua, ug, le', tr', qs, g3, by rw [ho]; exact hv', hne, hw', by rw [ho]; exact hc.fst, by rw [hA]; exact hkeep hc.asks, by rw [hG]; exact hkeep hc.greets, (fun q hq => hkeep (hc.opts q hq)), hold⟩, hm'.keeps, hnew⟩
  · obtain ⟨uq, hq, g3, hne, hnew, hold, hkeep, hrow⟩ := roff_core hc hm' hp rfl h1 (h2 _ hug) hj rfl (fun _ e => by cases e) (fun _ _ e => by cases e)
    obtain ⟨v, hv, hvr⟩ := hrow hR
    obtain ⟨ys, hys, hvs⟩ := hm'.sat.blk j _ uq hj hq
    rw [hc2 B' v hv, Option.some.injEq] at hys
    subst hys
    have hvs : VecSat w' 36 13 uq (c.outs.length + 1) (flatQ qs ++ q.p.l v) := hvs
    have hfl : flatQ qs ++ q.p.l v = flatQ (qs ++ [(q, v)]) := by
      rw [flatQ_append]
      show _ = flatQ qs ++ (q.p.l v ++ [])
      rw [List.append_nil]
    rw [hfl] at hvs
    refine ⟨uq, ⟨ua, ug, le', tr', qs ++ [(q, v)], g3, by rw [ho, List.length_append]; exact hvs, hne, hw', by rw [ho, List.map_append, hc.fst]; rfl, by rw [hA]; exact hkeep hc.asks, by rw [hG]; exact hkeep hc.greets, (fun x hx => ?_), hold⟩, hm'.keeps, hnew⟩
    rcases List.mem_append.1 hx with hx | hx
    · exact hkeep (hc.opts x hx)
    · rw [List.mem_singleton] at hx; subst hx; exact hvr
theorem rsay_all {w : World} {X : List Nat} {k : Nat} {uo : Value} {c : Cs} (hs : RSat w X k uo c) (hi : CInv c) (kd : Int) {u : Value} {o : OL} (hr : RowO w (bsOf k uo ++ X) u o) (hf : o.few) (hn : o.n ≤ 100) (d : ByteArray) (hd : d.size ≤ 1000000) (ra : Int) : Calls Tryz.prog 41 #[ptrV k, .int .i64 kd, u, .string d, .int .i64 ra] w fun e w' => e = .returned (.tuple #[.int .i64 (c.sayP kd o d ra).2.1, .int .i64 (c.sayP kd o d ra).2.2]) ∧ RPost w X k uo (c.sayP kd o d ra).1 w' := by
  by_cases hb : c.mayK kd = 0
  · unfold Cs.mayK at hb
    split at hb
    · exact absurd hb (by decide)
    · rename_i hk
      split at hb
      · rename_i hs'
        rcases hs' with hs' | ⟨hs', rfl⟩
        · exact rsay_s3 hs hs' kd (Decidable.of_not_not hk) hr hf d hd ra
        · exact rsay_s2 hs hi hs' hr hf hn d ra
      · exact absurd hb (by decide)
  · exact rsay_sX hs kd hb u o d ra
end Go.Proofs.YtopeaafcepgnhaaGreat
namespace Go.Proofs.YtopeaafcepgnhaaGreat
open Go.RowKit Sym Go.ChangeShapes Go.WideShapes Go.ChangeMaps
attribute [local irreducible] canT
theorem radopt_any (iss isr gsr : Int) (w : World) : Calls Tryz.prog 10 #[.int .i64 iss, .int .i64 isr, .int .i64 gsr] w fun e w' => ∃ k, w.heap.size ≤ k ∧ e = .returned (ptrV k) ∧ (∀ X : List Nat, (∀ x ∈ X, x < w.heap.size) → RSat w' X k (.slice none 0 0) (Cs.adopt iss isr gsr)) ∧ Below w.heap.size w w' := by
  have ht : (canT 0 (runF Tryz.prog (CH1 Tryz.prog (RfFn.mk Tryz.f31 Tryz.f16 Tryz.f38 Tryz.f75 Tryz.f39 Tryz.f76) Tryz.f74) noL Tryz.f10 (Tryz.f10.body.getD .skip) [.v (.int .i64 iss), .v (.int .i64 isr), .v (.int .i64 gsr)] [])).ok fun r => r.1 = .ptr 0 0 ∧ ∃ cells, r.2 = [.own cells] ∧ SV.tos [] cells = some (rsV15 (Cs.adopt iss isr gsr) (.slice none 0 0) (.slice none 0 0) 0 0 ++ [.slice none 0 0]) := by
    rw [radopt_run iss isr gsr]
    exact t_leaf ⟨rfl, _, rfl, rfl⟩
  refine (canT_okn CH1_ok follows Tryz.func10 (by kernel_rfl) (lexAllF_ok (by kernel_rfl)) (noloops (by kernel_rfl)) ht rfl (mem_none w) rfl).mono ?_
  rintro e w' ⟨s, H', B', x, ⟨h0, cells, hH, hcs⟩, hp, rfl, hx, hm'⟩
  simp only at hH h0
  subst hH h0
  obtain ⟨b, us, g1, g2, g3⟩ := hm'.own_at (k := 0) rfl
  have hus : us = rsV15 (Cs.adopt iss isr gsr) (.slice none 0 0) (.slice none 0 0) 0 0 ++ [.slice none 0 0] := by
    have h := SV.tos_mono (B2 := B') List.nil_prefix hcs
    rw [g2, Option.some.injEq] at h
    exact h
  subst hus
  simp only [SV.to, g1, Option.some.injEq] at hx
  subst hx
  have hb : w.heap.size ≤ b := by
    rcases hm'.good 0 b ⟨_, _, rfl, rfl, g1, rfl⟩ with h | h
    · cases h
    · exact h
  refine ⟨b, hb, rfl, fun X hX => ⟨.slice none 0 0, .slice none 0 0, 0, 0, [], g3, vec_nil w', (fun h => by cases h), .inl rfl, rfl, rowO_nil _ _, rowO_nil _ _, (fun q hq => by cases hq), fun x hx => ⟨Nat.lt_of_lt_of_le (hX x hx) hm'.keeps.size, fun g => ?_⟩⟩, hm'.keeps.below⟩
  rcases bsOf_mem.1 g with g | g
  · exact absurd (hX x hx) (by omega)
  · cases g
end Go.Proofs.YtopeaafcepgnhaaGreat
namespace Go.Proofs.YtopeaafcepgnhaaGreat
open Go.RowKit Sym Go.ChangeShapes Go.WideShapes Go.ChangeMaps
structure BelowBy (W : World) where
  w : World
  h : Below W.heap.size W w
instance (W : World) : Inhabited (BelowBy W) := ⟨⟨W, Below.refl _ _⟩⟩
theorem wp_region_below {P : Program} {id : Nat} {Q : Exit → Act → World → Prop} {a : Act} {w : World} {l : List Oper} (hm : P.follows .mixedOrders = true) (hB : Region.lexB .any l.toArray = true)
    (h : wpQuiet P l.toArray (fun w' => ∃ p : BelowBy w, w' = p.w) (fun a' => ∀ w', (∃ p : BelowBy w, w' = p.w) → Q .normal a' w') l a) : (Code.region id l.toArray true).wp P Q a w :=
  wp_region_quiet (C := fun w' => ∃ p : BelowBy w, w' = p.w) hm hB ⟨⟨w.drew, (Below.refl _ _).drew⟩, rfl⟩ (by simpa using h)
theorem below_left {P : Program} {f : FuncId} {args : Array Value} {W : World} {p : BelowBy W} {v : Value}
    (h : Calls P f args p.w fun e w' => e = .returned v ∧ Below p.w.heap.size p.w w') : Calls P f args p.w fun e w'' => e = .returned v ∧ ∃ q : BelowBy W, w'' = q.w :=
  h.mono fun _ w' ⟨he, hb⟩ => ⟨he, ⟨w', p.h.trans (hb.mono p.h.size)⟩, rfl⟩
theorem cell_by {W : World} {a : Addr} {v : Value} (h : W.cell? a = some v) (p : BelowBy W) : p.w.cell? a = some v := (p.h.cell (p := a) (lt_of_cell h)).trans h
def idxV : Value → Nat
  | .int _ n => n.toNat
  | _ => 0
structure PkAt (w : World) (b o : Nat) (p : Pk) (u : Value) : Prop where
  c0 : w.cell? ⟨b, o, none⟩ = some (.int .i64 p.kind)
  c1 : w.cell? ⟨b, o + 1, none⟩ = some (.bool p.long)
  c2 : w.cell? ⟨b, o + 2, none⟩ = some (.int .i64 p.src)
  c3 : w.cell? ⟨b, o + 3, none⟩ = some (.int .i64 p.dst)
  c4 : w.cell? ⟨b, o + 4, none⟩ = some (.int .i64 p.ccval)
  c5 : w.cell? ⟨b, o + 5, none⟩ = some (.int .i64 p.cover)
  c6 : w.cell? ⟨b, o + 6, none⟩ = some (.int .i64 p.seq)
  c7 : w.cell? ⟨b, o + 7, none⟩ = some (.int .i64 p.ack)
  c8 : w.cell? ⟨b, o + 8, none⟩ = some (.int .i64 p.service)
  c9 : w.cell? ⟨b, o + 9, none⟩ = some (.int .i64 p.code)
  c10 : w.cell? ⟨b, o + 10, none⟩ = some (.int .i64 p.detail)
  c11 : w.cell? ⟨b, o + 11, none⟩ = some u
  c12 : w.cell? ⟨b, o + 12, none⟩ = some (.string p.data)
theorem pkAt_of {w : World} {b o : Nat} {p : Pk} {u : Value} (h : ∀ j, j < 13 → w.cell? ⟨b, o + j, none⟩ = (p.l u)[j]?) : PkAt w b o p u :=
  ⟨h 0 (by decide), h 1 (by decide), h 2 (by decide), h 3 (by decide), h 4 (by decide), h 5 (by decide), h 6 (by decide), h 7 (by decide), h 8 (by decide), h 9 (by decide), h 10 (by decide), h 11 (by decide), h 12 (by decide)⟩
theorem PkAt.of {w w' : World} {b o : Nat} {p : Pk} {u : Value} (h : PkAt w b o p u) (e : ∀ {a : Addr} {v : Value}, w.cell? a = some v → w'.cell? a = some v) : PkAt w' b o p u :=
  ⟨e h.c0, e h.c1, e h.c2, e h.c3, e h.c4, e h.c5, e h.c6, e h.c7, e h.c8, e h.c9, e h.c10, e h.c11, e h.c12⟩
theorem flat_at : ∀ (qs : List (QP × Value)) (i : Nat) (q : QP × Value), qs[i]? = some q → ∀ j, j < 13 → (flatQ qs)[i * 13 + j]? = (q.1.p.l q.2)[j]?
  | [], i, q, h, _, _ => by simp at h
  | q' :: qs, 0, q, h, j, hj => by
    simp only [List.getElem?_cons_zero, Option.some.injEq] at h
    subst h
    show (q'.1.p.l q'.2 ++ flatQ qs)[0 * 13 + j]? = _
    rw [List.getElem?_append_left (by show 0 * 13 + j < 13; omega)]
    congr 1
    omega
  | q' :: qs, i + 1, q, h, j, hj => by
    show (q'.1.p.l q'.2 ++ flatQ qs)[(i + 1) * 13 + j]? = _
    rw [List.getElem?_append_right (by show 13 ≤ (i + 1) * 13 + j; omega)]
    have : (i + 1) * 13 + j - (q'.1.p.l q'.2).length = i * 13 + j := by show (i + 1) * 13 + j - 13 = _; omega
    rw [this]
    exact flat_at qs i q h j hj
theorem vec_pk {w : World} {u : Value} {qs : List (QP × Value)} {n : Nat} (hn : qs.length = n) (h : VecSat w 36 13 u n (flatQ qs)) : (u = .slice none 0 0 ∧ n = 0) ∨ ∃ g cap, u = .slice (some ⟨g, 0, none⟩) n cap ∧ n ≤ maxLen ∧ ∀ i q, qs[i]? = some q → PkAt w g (i * 13) q.1.p q.2 := by
  rcases h.view.2 with h | ⟨g, cap, rfl, -, h1, h2, h3⟩
  · exact .inl h
  · refine .inr ⟨g, cap, rfl, Nat.le_trans h1 h2, fun i q hq => pkAt_of fun j hj => ?_⟩
    have hi : i < qs.length := (List.getElem?_eq_some_iff.1 hq).1
    rw [(h3 (i * 13 + j) (by omega)).1, flat_at qs i q hq j hj]
theorem vec_pk2 {w : World} {u : Value} {qs : List (QP × Value)} {n : Nat} (hn : qs.length = n) (h : VecSat w 36 13 u n (flatQ qs)) : ∃ p cap, u = .slice p n cap ∧ n ≤ maxLen ∧ ∀ i q, qs[i]? = some q → ∃ g, p = some ⟨g, 0, none⟩ ∧ PkAt w g (i * 13) q.1.p q.2 := by
  rcases vec_pk hn h with ⟨rfl, rfl⟩ | ⟨g, cap, rfl, h1, h2⟩
  · exact ⟨none, 0, rfl, Nat.zero_le _, fun i q hq => by have := (List.getElem?_eq_some_iff.1 hq).1; omega⟩
  · exact ⟨_, cap, rfl, h1, fun i q hq => ⟨g, rfl, h2 i q hq⟩⟩
theorem same_self (p : Pk) (o : OL) : sameP p o.n o.g p o.n o.g = true := by
  unfold sameP sameO samePk
  have h : firstOf (difO o.g o.g) o.n 0 = o.n := by
    obtain ⟨h1, -, h3⟩ := firstOf_le (difO o.g o.g) o.n
    rcases Nat.lt_or_ge (firstOf (difO o.g o.g) o.n 0) o.n with h | h
    · have := h3 h
      unfold difO at this
      simp at this
    · omega
  rw [h]
  have hb : Nat.blt o.n o.n = false := by rw [← Bool.not_eq_true, Nat.blt_eq]; omega
  rw [hb]
  simp
def Yes (p : Prop) (e : Ending) : Prop := ∃ β : Bool, e = .returned (.bool β) ∧ (p → β = true)
theorem yes_no {p : Prop} (h : ¬ p) : Yes p (.returned (.bool false)) := ⟨false, rfl, fun e => absurd e h⟩
theorem yes_yes {p : Prop} : Yes p (.returned (.bool true)) := ⟨true, rfl, fun _ => rfl⟩
set_option maxRecDepth 100000 in
set_option maxHeartbeats 8000000 in
theorem packets_any {w : World} {b1 b2 : List Nat} {u1 u2 : Value} {l1 l2 : List QP} {qs1 qs2 : List (QP × Value)} (h1 : QSat w b1 u1 l1 qs1) (h2 : QSat w b2 u2 l2 qs2) (hf : ∀ q ∈ l1, q.o.few) : Calls Tryz.prog 17 #[u1, u2] w fun e w' => Yes (l1 = l2) e ∧ Below w.heap.size w w' := by
  have hl1 : qs1.length = l1.length := by rw [← h1.fst, List.length_map]
  have hl2 : qs2.length = l2.length := by rw [← h2.fst, List.length_map]
  obtain ⟨p1, c1, rfl, m1, a1⟩ := vec_pk2 hl1 h1.vec
  obtain ⟨p2, c2, rfl, m2, a2⟩ := vec_pk2 hl2 h2.vec
  have o1 := h1.opts
  have o2 := h2.opts
  have g1 : ∀ (i : Nat) (q : QP × Value), qs1[i]? = some q → l1[i]? = some q.1 := fun i q hq => by rw [← h1.fst, List.getElem?_map, hq]; rfl
  have g2 : ∀ (i : Nat) (q : QP × Value), qs2[i]? = some q → l2[i]? = some q.1 := fun i q hq => by rw [← h2.fst, List.getElem?_map, hq]; rfl
  clear h1 h2
  by_cases hll : l1.length = l2.length
  rotate_left
  · have hne : l1 ≠ l2 := fun e => hll (by rw [e])
    have hneI : (l1.length : Int) ≠ l2.length := by omega
    generalize l1.length = n1 at *
    generalize l2.length = n2 at *
    go_enter Tryz.func17, Tryz.ntmps17
    go_wp2
    go_ret
    exact ⟨yes_no hne, Below.refl _ _⟩
  rw [← hll] at hl2 m2 ⊢
  clear hll
  generalize hn : l1.length = n at *
  go_enter Tryz.func17, Tryz.ntmps17
  go_wp2
  go_loopw [5] (fun u5 wr => ∃ i : Nat, u5 = .int .i64 i ∧ i ≤ n ∧ Below w.heap.size w wr)
    (fun u5 _ => n - idxV u5)
  case atStart => exact ⟨0, rfl, Nat.zero_le _, Below.refl _ _⟩
  case round =>
    obtain ⟨i, rfl, hi, hb⟩ := hrel
    by_cases hin : i < n
    · obtain ⟨q1, hq1⟩ : ∃ q, qs1[i]? = some q := ⟨_, List.getElem?_eq_getElem (by omega)⟩
      obtain ⟨q2, hq2⟩ : ∃ q, qs2[i]? = some q := ⟨_, List.getElem?_eq_getElem (by omega)⟩
      obtain ⟨k1, rfl, A1⟩ := a1 i q1 hq1
      obtain ⟨k2, rfl, A2⟩ := a2 i q2 hq2
      have hm1 := List.mem_of_getElem? hq1
      have hm2 := List.mem_of_getElem? hq2
      have hs : ∀ w' : World, Below w.heap.size w w' → Calls Tryz.prog 47 #[q1.1.p.v q1.2, q2.1.p.v q2.2] w' fun e w'' => e = .returned (.bool (sameP q1.1.p q1.1.o.n q1.1.o.g q2.1.p q2.1.o.n q2.1.o.g)) ∧ Below w'.heap.size w' w'' := fun w' hb' =>
        ref10_same q1.1.p q2.1.p q1.1.o.n q2.1.o.n q1.1.o.g q2.1.o.g (Nat.le_trans (hf q1.1 (List.mem_of_getElem? (g1 i q1 hq1))).1 (by decide)) q1.2 q2.2 w' ((o1 q1 hm1).kept (keeps_below hb' []) (fun _ h => by cases h) (bad' := []) (fun _ h => by cases h)).row ((o2 q2 hm2).kept (keeps_below hb' []) (fun _ h => by cases h) (bad' := []) (fun _ h => by cases h)).row
      have hne : sameP q1.1.p q1.1.o.n q1.1.o.g q2.1.p q2.1.o.n q2.1.o.g = false → ¬ l1 = l2 := by
        intro e hl
        have e1 := g1 i q1 hq1
        rw [hl, g2 i q2 hq2, Option.some.injEq] at e1
        rw [e1, same_self] at e
        cases e
      have B1 := A1.of (old_cell hb)
      have B2 := A2.of (old_cell hb)
      obtain ⟨x0, x1, x2, x3, x4, x5, x6, x7, x8, x9, x10, x11, x12⟩ := B1
      obtain ⟨y0, y1, y2, y3, y4, y5, y6, y7, y8, y9, y10, y11, y12⟩ := B2
      have X0 := cell_by x0
      have X1 := cell_by x1
      have X2 := cell_by x2
      have X3 := cell_by x3
      have X4 := cell_by x4
      have X5 := cell_by x5
      have X6 := cell_by x6
      have X7 := cell_by x7
      have X8 := cell_by x8
      have X9 := cell_by x9
      have X10 := cell_by x10
      have X11 := cell_by x11
      have X12 := cell_by x12
      have Y0 := cell_by y0
      have Y1 := cell_by y1
      have Y2 := cell_by y2
      have Y3 := cell_by y3
      have Y4 := cell_by y4
      have Y5 := cell_by y5
      have Y6 := cell_by y6
      have Y7 := cell_by y7
      have Y8 := cell_by y8
      have Y9 := cell_by y9
      have Y10 := cell_by y10
      have Y11 := cell_by y11
      have Y12 := cell_by y12
      clear a1 a2 A1 A2 x0 x1 x2 x3 x4 x5 x6 x7 x8 x9 x10 x11 x12 y0 y1 y2 y3 y4 y5 y6 y7 y8 y9 y10 y11 y12
      generalize sameP q1.1.p q1.1.o.n q1.1.o.g q2.1.p q2.1.o.n q2.1.o.g = sm at *
      go_wp2
      (refine wp_region_below (by kernel_rfl) (by kernel_rfl) ?_; (repeat (quiet_step ((go_at_call 47; exact below_left (hs _ (hb.trans ((BelowBy.h _).mono hb.size))))))); refine wpQuiet_nil ?_; intro _ hw'; obtain ⟨⟨wq, hbq⟩, hw''⟩ := hw'; subst hw'')
      clear X0 X1 X2 X3 X4 X5 X6 X7 X8 X9 X10 X11 X12 Y0 Y1 Y2 Y3 Y4 Y5 Y6 Y7 Y8 Y9 Y10 Y11 Y12
      have hb' := hb.trans (hbq.mono hb.size)
      have hwi : wrap64 ((i : Int) + 1) = (i : Int) + 1 := by have := m1; unfold maxLen at this; unfold wrap64; omega
      cases sm
      · go_wp2
        go_ret
        first | exact ⟨yes_no not_false, hb'⟩ | exact ⟨yes_no (hne trivial), hb'⟩ | exact ⟨yes_no (hne rfl), hb'⟩
      · go_wp2
        go_roundw
        case rel => exact ⟨i + 1, by rw [hwi]; rfl, hin, hb'⟩
        case measure => rw [hwi]; simp [idxV]; omega
    · have : i = n := by omega
      subst this
      go_wp2
      go_ret
      exact ⟨yes_yes, hb⟩
structure Good (c : Cs) : Prop where
  e : EInv c
  f : FInv c
theorem Good.inv {c : Cs} (h : Good c) : CInv c := cinv h.e h.f
theorem Good.step {c : Cs} (h : Good c) {o : Op24} (ho : o.o.few ∧ o.o.n ≤ 100) : Good (c.step o) := ⟨step_e h.e o, h.f.step ho⟩
structure Both (w : World) (Z : List Nat) (k1 : Nat) (uo1 : Value) (c : Cs) (k2 : Nat) (uo2 : Value) (r : Cs) : Prop where
  hC : CSat w (bsOf k2 uo2 ++ Z) k1 uo1 c
  hR : RSat w (bsOf k1 uo1 ++ Z) k2 uo2 r
structure Mv (w : World) (k1 : Nat) (uo1 : Value) (k2 : Nat) (uo2 : Value) (w' : World) (uo1' uo2' : Value) : Prop where
  keeps : Keeps (bsOf k1 uo1 ++ bsOf k2 uo2) w w'
  n1 : ∀ b, blockOf uo1' = some b → blockOf uo1 = some b ∨ w.heap.size ≤ b
  n2 : ∀ b, blockOf uo2' = some b → blockOf uo2 = some b ∨ w.heap.size ≤ b
theorem Mv.below {w w' : World} {k1 k2 : Nat} {uo1 uo2 : Value} (h : Below w.heap.size w w') : Mv w k1 uo1 k2 uo2 w' uo1 uo2 := ⟨keeps_below h _, fun b hb => .inl hb, fun b hb => .inl hb⟩
theorem Mv.trans {w w1 w2 : World} {k1 k2 : Nat} {uo1 uo2 va1 va2 ub1 ub2 : Value} (h : Mv w k1 uo1 k2 uo2 w1 va1 va2) (g : Mv w1 k1 va1 k2 va2 w2 ub1 ub2) : Mv w k1 uo1 k2 uo2 w2 ub1 ub2 := by
  have hk := h.keeps
  have gk := g.keeps
  refine ⟨⟨gk.os.trans hk.os, gk.tape.trans hk.tape, gk.output.trans hk.output, Nat.le_trans hk.size gk.size, fun j hj hn => ?_⟩, fun b hb => ?_, fun b hb => ?_⟩
  · refine (gk.block j (Nat.lt_of_lt_of_le hj hk.size) fun hm => hn ?_).trans (hk.block j hj hn)
    rcases List.mem_append.1 hm with hm | hm
    · refine List.mem_append.2 (.inl ?_)
      rcases bsOf_mem.1 hm with e | e
      · exact bsOf_mem.2 (.inl e)
      · rcases h.n1 j e with e | e
        · exact bsOf_mem.2 (.inr e)
        · exact absurd hj (Nat.not_lt.2 e)
    · refine List.mem_append.2 (.inr ?_)
      rcases bsOf_mem.1 hm with e | e
      · exact bsOf_mem.2 (.inl e)
      · rcases h.n2 j e with e | e
        · exact bsOf_mem.2 (.inr e)
        · exact absurd hj (Nat.not_lt.2 e)
  · rcases g.n1 b hb with e | e
    · exact h.n1 b e
    · exact .inr (Nat.le_trans hk.size e)
  · rcases g.n2 b hb with e | e
    · exact h.n2 b e
    · exact .inr (Nat.le_trans hk.size e)
theorem CSat.low {w : World} {X : List Nat} {k : Nat} {uo : Value} {c : Cs} (h : CSat w X k uo c) : (∀ b ∈ bsOf k uo, b < w.heap.size) ∧ ∀ x ∈ X, x < w.heap.size ∧ x ∉ bsOf k uo := by
  obtain ⟨ua, ug, qs, hc⟩ := h
  refine ⟨fun b hb => ?_, hc.old⟩
  rcases bsOf_mem.1 hb with rfl | hb
  · exact hc.conn.own.1
  · exact hc.conn.q.lt hb
theorem RSat.low {w : World} {X : List Nat} {k : Nat} {uo : Value} {c : Cs} (h : RSat w X k uo c) : (∀ b ∈ bsOf k uo, b < w.heap.size) ∧ ∀ x ∈ X, x < w.heap.size ∧ x ∉ bsOf k uo := by
  obtain ⟨ua, ug, le, tr, qs, hc⟩ := h
  refine ⟨fun b hb => ?_, hc.old⟩
  rcases bsOf_mem.1 hb with rfl | hb
  · exact hc.own.1
  · exact hc.q.lt hb
theorem mem_l {A B : List Nat} {x : Nat} (h : x ∈ A) : x ∈ A ++ B := List.mem_append.2 (.inl h)
theorem mem_r {A B : List Nat} {x : Nat} (h : x ∈ B) : x ∈ A ++ B := List.mem_append.2 (.inr h)
theorem bs_new {w : World} {k : Nat} {uo uo' : Value} (hn : ∀ b, blockOf uo' = some b → blockOf uo = some b ∨ w.heap.size ≤ b) {x : Nat} (hx : x ∈ bsOf k uo') : x ∈ bsOf k uo ∨ w.heap.size ≤ x := by
  rcases bsOf_mem.1 hx with rfl | hx
  · exact .inl (bsOf_mem.2 (.inl rfl))
  · exact (hn x hx).imp (fun e => bsOf_mem.2 (.inr e)) id
theorem Both.conn {w w' : World} {Z : List Nat} {k1 k2 : Nat} {uo1 uo2 : Value} {c c' r : Cs} (h : Both w Z k1 uo1 c k2 uo2 r) (hp : CPost w (bsOf k2 uo2 ++ Z) k1 uo1 c' w') : ∃ uo1', Both w' Z k1 uo1' c' k2 uo2 r ∧ Mv w k1 uo1 k2 uo2 w' uo1' uo2 := by
  obtain ⟨uo1', hs, hk, hn⟩ := hp
  refine ⟨uo1', ⟨hs, h.hR.frame hk (fun b hb => mem_l hb) fun x hx => ?_⟩, keeps_more hk fun b hb => mem_l hb, hn, fun b hb => .inl hb⟩
  rcases List.mem_append.1 hx with hx | hx
  · exact ⟨(bs_new hn hx).imp mem_l id, hs.low.1 x hx⟩
  · exact ⟨.inl (mem_r hx), Nat.lt_of_lt_of_le (h.hR.low.2 x (mem_r hx)).1 hk.size⟩
theorem Both.ref {w w' : World} {Z : List Nat} {k1 k2 : Nat} {uo1 uo2 : Value} {c r r' : Cs} (h : Both w Z k1 uo1 c k2 uo2 r) (hp : RPost w (bsOf k1 uo1 ++ Z) k2 uo2 r' w') : ∃ uo2', Both w' Z k1 uo1 c k2 uo2' r' ∧ Mv w k1 uo1 k2 uo2 w' uo1 uo2' := by
  obtain ⟨uo2', hs, hk, hn⟩ := hp
  refine ⟨uo2', ⟨h.hC.frame hk (fun b hb => mem_l hb) fun x hx => ?_, hs⟩, keeps_more hk fun b hb => mem_r hb, fun b hb => .inl hb, hn⟩
  rcases List.mem_append.1 hx with hx | hx
  · exact ⟨(bs_new hn hx).imp mem_l id, hs.low.1 x hx⟩
  · exact ⟨.inl (mem_r hx), Nat.lt_of_lt_of_le (h.hC.low.2 x (mem_r hx)).1 hk.size⟩
theorem Both.below {w w' : World} {Z Z' : List Nat} {k1 k2 : Nat} {uo1 uo2 : Value} {c r : Cs} (h : Both w Z k1 uo1 c k2 uo2 r) (hb : Below w.heap.size w w') (hz : ∀ x ∈ Z', (x ∈ Z ∨ w.heap.size ≤ x) ∧ x < w'.heap.size) : Both w' Z' k1 uo1 c k2 uo2 r := by
  refine ⟨h.hC.frame (keeps_below hb []) (fun _ h => by cases h) fun x hx => ?_, h.hR.frame (keeps_below hb []) (fun _ h => by cases h) fun x hx => ?_⟩
  · rcases List.mem_append.1 hx with hx | hx
    · exact ⟨.inl (mem_l hx), Nat.lt_of_lt_of_le (h.hR.low.1 x hx) hb.size⟩
    · exact ⟨(hz x hx).1.imp mem_r id, (hz x hx).2⟩
  · rcases List.mem_append.1 hx with hx | hx
    · exact ⟨.inl (mem_l hx), Nat.lt_of_lt_of_le (h.hC.low.1 x hx) hb.size⟩
    · exact ⟨(hz x hx).1.imp mem_r id, (hz x hx).2⟩
theorem Both.same {w w' : World} {Z : List Nat} {k1 k2 : Nat} {uo1 uo2 : Value} {c r : Cs} (h : Both w Z k1 uo1 c k2 uo2 r) (hb : Below w.heap.size w w') : Both w' Z k1 uo1 c k2 uo2 r :=
  h.below hb fun x hx => ⟨.inl hx, Nat.lt_of_lt_of_le (h.hC.low.2 x (mem_r hx)).1 hb.size⟩
theorem Both.more {w : World} {Z : List Nat} {k1 k2 : Nat} {uo1 uo2 : Value} {c r : Cs} (h : Both w Z k1 uo1 c k2 uo2 r) (o : Obj) : Both (w.alloc o) (w.heap.size :: Z) k1 uo1 c k2 uo2 r :=
  h.below ((Below.refl _ _).alloc (Nat.le_refl _) o) fun x hx => by
    rcases List.mem_cons.1 hx with rfl | hx
    · exact ⟨.inr (Nat.le_refl _), by simp⟩
    · have := (h.hC.low.2 x (mem_r hx)).1
      exact ⟨.inl hx, by simp; omega⟩
theorem Both.less {w : World} {Z Z' : List Nat} {k1 k2 : Nat} {uo1 uo2 : Value} {c r : Cs} (h : Both w Z k1 uo1 c k2 uo2 r) (hz : ∀ x ∈ Z', x ∈ Z) : Both w Z' k1 uo1 c k2 uo2 r :=
  h.below (Below.refl _ _) fun x hx => ⟨.inl (hz x hx), (h.hC.low.2 x (mem_r (hz x hx))).1⟩
theorem Both.own {w w' : World} {Z : List Nat} {k1 k2 : Nat} {uo1 uo2 va1 va2 : Value} {c r : Cs} (h : Both w Z k1 uo1 c k2 uo2 r) (hm : Mv w k1 uo1 k2 uo2 w' va1 va2) {B : Nat} {cs : Array Value} (hB : B ∈ Z) (ho : Own w B cs) : Own w' B cs :=
  own_keeps ho hm.keeps fun hx => by
    rcases List.mem_append.1 hx with hx | hx
    · exact (h.hC.low.2 B (mem_r hB)).2 hx
    · exact (h.hR.low.2 B (mem_r hB)).2 hx
def RowB (w : World) (Z : List Nat) (k1 : Nat) (uo1 : Value) (k2 : Nat) (uo2 : Value) (u : Value) (o : OL) : Prop := RowO w (bsOf k1 uo1 ++ (bsOf k2 uo2 ++ Z)) u o
theorem RowB.ref {w : World} {Z : List Nat} {k1 k2 : Nat} {uo1 uo2 u : Value} {o : OL} (h : RowB w Z k1 uo1 k2 uo2 u o) : RowO w (bsOf k2 uo2 ++ (bsOf k1 uo1 ++ Z)) u o :=
  RowO.kept h (.refl [] _) (fun _ h => by cases h) fun b hb => .inl (by
    rcases List.mem_append.1 hb with hb | hb
    · exact mem_r (mem_l hb)
    · rcases List.mem_append.1 hb with hb | hb
      · exact mem_l hb
      · exact mem_r (mem_r hb))
theorem RowB.mv {w w' : World} {Z : List Nat} {k1 k2 : Nat} {uo1 uo2 va1 va2 u : Value} {o : OL} (h : RowB w Z k1 uo1 k2 uo2 u o) (hm : Mv w k1 uo1 k2 uo2 w' va1 va2) : RowB w' Z k1 va1 k2 va2 u o :=
  RowO.kept h hm.keeps (fun b hb => (List.mem_append.1 hb).elim mem_l fun hb => mem_r (mem_l hb)) fun b hb => by
    rcases List.mem_append.1 hb with hb | hb
    · exact (bs_new hm.n1 hb).imp mem_l id
    · rcases List.mem_append.1 hb with hb | hb
      · exact (bs_new hm.n2 hb).imp (fun e => mem_r (mem_l e)) id
      · exact .inl (mem_r (mem_r hb))
theorem RowB.more {w w' : World} {Z : List Nat} {k1 k2 : Nat} {uo1 uo2 u : Value} {o : OL} (h : RowB w Z k1 uo1 k2 uo2 u o) (hb : Below w.heap.size w w') : RowB w' (w.heap.size :: Z) k1 uo1 k2 uo2 u o :=
  RowO.kept h (keeps_below hb []) (fun _ h => by cases h) fun b hb => by
    rcases List.mem_append.1 hb with hb | hb
    · exact .inl (mem_l hb)
    · rcases List.mem_append.1 hb with hb | hb
      · exact .inl (mem_r (mem_l hb))
      · rcases List.mem_cons.1 hb with rfl | hb
        · exact .inr (Nat.le_refl _)
        · exact .inl (mem_r (mem_r hb))
def opC (o : Op24) (u pu : Value) : Array Value := #[.int .i64 o.kd, .int .i64 o.n, u, .string o.d, .int .i64 o.p.kind, .bool o.p.long, .int .i64 o.p.src, .int .i64 o.p.dst, .int .i64 o.p.ccval, .int .i64 o.p.cover, .int .i64 o.p.seq, .int .i64 o.p.ack, .int .i64 o.p.service, .int .i64 o.p.code, .int .i64 o.p.detail, pu, .string o.p.data]
def opV (o : Op24) (u pu : Value) : Value := .agg (opC o u pu)
structure OpOk (o : Op24) : Prop where
  f : o.o.few ∧ o.o.n ≤ 100
  pf : o.po.few
  d : o.d.size ≤ 1000000
  pd : o.p.data.size ≤ 1000000
def StepPost (w : World) (Z : List Nat) (k1 : Nat) (uo1 : Value) (c' : Cs) (k2 : Nat) (uo2 : Value) (r' : Cs) (w' : World) : Prop := ∃ uo1' uo2', Both w' Z k1 uo1' c' k2 uo2' r' ∧ Mv w k1 uo1 k2 uo2 w' uo1' uo2'
theorem yes_b {p : Prop} {b : Bool} (h : p → b = true) : Yes p (.returned (.bool b)) := ⟨b, rfl, h⟩
set_option maxRecDepth 100000 in
set_option maxHeartbeats 8000000 in
theorem step_0 {w : World} {Z : List Nat} {k1 k2 : Nat} {uo1 uo2 u pu : Value} {c r : Cs} (h : Both w Z k1 uo1 c k2 uo2 r) (hr : Good r) {o : Op24} (hk : o.kd = 0) (ho : OpOk o) (hu : RowB w Z k1 uo1 k2 uo2 u o.o) (hsp : sliceP pu) : Calls Tryz.prog 13 #[ptrV k1, ptrV k2, opV o u pu] w fun e w' => Yes (c = r) e ∧ StepPost w Z k1 uo1 (c.greet o.o).1 k2 uo2 (r.greet o.o).1 w' := by
  obtain ⟨pp, pl, pc, rfl⟩ := hsp
  obtain ⟨up, ul, uc, rfl⟩ := rowO_slice hu
  obtain ⟨kd, n, oo, d, ⟨p0, p1, p2, p3, p4, p5, p6, p7, p8, p9, p10, p11⟩, po⟩ := o
  obtain ⟨hf, hpf, hd, hpd⟩ := ho
  dsimp only at *
  subst hk
  unfold opV opC
  dsimp only
  have hB0 := h.more (.cells #[.int .i64 0, .int .i64 n, .slice up ul uc, .string d, .int .i64 p0, .bool p1, .int .i64 p2, .int .i64 p3, .int .i64 p4, .int .i64 p5, .int .i64 p6, .int .i64 p7, .int .i64 p8, .int .i64 p9, .int .i64 p10, .slice pp pl pc, .string p11] 38)
  have hO0 := own_new w #[.int .i64 0, .int .i64 n, .slice up ul uc, .string d, .int .i64 p0, .bool p1, .int .i64 p2, .int .i64 p3, .int .i64 p4, .int .i64 p5, .int .i64 p6, .int .i64 p7, .int .i64 p8, .int .i64 p9, .int .i64 p10, .slice pp pl pc, .string p11] 38
  have hal : Below w.heap.size w (w.alloc (.cells #[.int .i64 0, .int .i64 n, .slice up ul uc, .string d, .int .i64 p0, .bool p1, .int .i64 p2, .int .i64 p3, .int .i64 p4, .int .i64 p5, .int .i64 p6, .int .i64 p7, .int .i64 p8, .int .i64 p9, .int .i64 p10, .slice pp pl pc, .string p11] 38)) := (Below.refl _ _).alloc (Nat.le_refl _) _
  have hu0 := hu.more hal
  go_enter Tryz.func13, Tryz.ntmps13
  go_wp2
  generalize hW : w.alloc _ = wa at *
  clear hW
  have hM0 : Mv w k1 uo1 k2 uo2 wa uo1 uo2 := .below hal
  have hd0 : Below wa.heap.size wa wa.drew := (Below.refl _ _).drew
  have hB1 := hB0.same hd0
  have hO1 := own_below hO0 hd0
  have hu1 := hu0.mv (.below hd0)
  have hM1 := hM0.trans (.below hd0)
  go_region_held3 (fun w' => w'.cell? ⟨w.heap.size, 2, none⟩ = some (.slice up ul uc))
    (first | exact hO1.2.1 2 | exact hO3.2.1 2 | exact hO4.2.1 2)
    (first
      | (go_at_call 22; refine (greet_any hB1.hC hu1 hf.1).mono ?_; rintro e w3 ⟨rfl, hp3⟩; obtain ⟨va3, hB3, hM3⟩ := hB1.conn hp3; have hO3 := hB1.own hM3 (List.mem_cons_self ..) hO1; have hu3 := hu1.mv hM3)
      | (go_at_call 40; refine (rgreet_any hB3.hR hr.inv hu3.ref hf).mono ?_; rintro e w4 ⟨rfl, hp4⟩; obtain ⟨va4, hB4, hM4⟩ := hB3.ref hp4; have hO4 := hB3.own hM4 (List.mem_cons_self ..) hO3))
  go_wp2
  go_ret
  refine ⟨yes_b fun e => by subst e; simp, ?_⟩
  exact ⟨_, _, hB4.less fun y hy => List.mem_cons_of_mem _ hy, (hM1.trans hM3).trans hM4⟩
set_option maxRecDepth 100000 in
set_option maxHeartbeats 8000000 in
theorem step_1 {w : World} {Z : List Nat} {k1 k2 : Nat} {uo1 uo2 u pu : Value} {c r : Cs} (h : Both w Z k1 uo1 c k2 uo2 r) (hc : Good c) (hr : Good r) {o : Op24} (hk : o.kd = 1) (ho : OpOk o) (hu : RowB w Z k1 uo1 k2 uo2 u o.o) (hpu : RowB w Z k1 uo1 k2 uo2 pu o.po) : Calls Tryz.prog 13 #[ptrV k1, ptrV k2, opV o u pu] w fun e w' => Yes (c = r) e ∧ StepPost w Z k1 uo1 (c.sayP o.n o.o o.d o.n).1 k2 uo2 (r.sayP o.n o.o o.d o.n).1 w' := by
  obtain ⟨pp, pl, pc, rfl⟩ := rowO_slice hpu
  obtain ⟨up, ul, uc, rfl⟩ := rowO_slice hu
  obtain ⟨kd, n, oo, d, ⟨p0, p1, p2, p3, p4, p5, p6, p7, p8, p9, p10, p11⟩, po⟩ := o
  obtain ⟨hf, hpf, hd, hpd⟩ := ho
  dsimp only at *
  subst hk
  unfold opV opC
  dsimp only
  have hB0 := h.more (.cells #[.int .i64 1, .int .i64 n, .slice up ul uc, .string d, .int .i64 p0, .bool p1, .int .i64 p2, .int .i64 p3, .int .i64 p4, .int .i64 p5, .int .i64 p6, .int .i64 p7, .int .i64 p8, .int .i64 p9, .int .i64 p10, .slice pp pl pc, .string p11] 38)
  have hO0 := own_new w #[.int .i64 1, .int .i64 n, .slice up ul uc, .string d, .int .i64 p0, .bool p1, .int .i64 p2, .int .i64 p3, .int .i64 p4, .int .i64 p5, .int .i64 p6, .int .i64 p7, .int .i64 p8, .int .i64 p9, .int .i64 p10, .slice pp pl pc, .string p11] 38
  have hal : Below w.heap.size w (w.alloc (.cells #[.int .i64 1, .int .i64 n, .slice up ul uc, .string d, .int .i64 p0, .bool p1, .int .i64 p2, .int .i64 p3, .int .i64 p4, .int .i64 p5, .int .i64 p6, .int .i64 p7, .int .i64 p8, .int .i64 p9, .int .i64 p10, .slice pp pl pc, .string p11] 38)) := (Below.refl _ _).alloc (Nat.le_refl _) _
  have hu0 := hu.more hal
  have hpu0 := hpu.more hal
  have hM0 : Mv w k1 uo1 k2 uo2 (w.alloc (.cells #[.int .i64 1, .int .i64 n, .slice up ul uc, .string d, .int .i64 p0, .bool p1, .int .i64 p2, .int .i64 p3, .int .i64 p4, .int .i64 p5, .int .i64 p6, .int .i64 p7, .int .i64 p8, .int .i64 p9, .int .i64 p10, .slice pp pl pc, .string p11] 38)) uo1 uo2 := .below hal
  go_enter Tryz.func13, Tryz.ntmps13
  go_wp2_with (first
    | (go_at_call 26; refine (say_any hB0.hC hc.inv n hu0 hf.1 hf.2 d n).mono ?_; rintro e w3 ⟨rfl, hp3⟩; obtain ⟨va3, hB3, hM3⟩ := hB0.conn hp3; have hO3 := hB0.own hM3 (List.mem_cons_self ..) hO0; have hu3 := hu0.mv hM3; have z1 : w3.cell? ⟨w.heap.size, 1, none⟩ = some (.int .i64 n) := hO3.2.1 1; have z2 : w3.cell? ⟨w.heap.size, 2, none⟩ = some (.slice up ul uc) := hO3.2.1 2; have z3 : w3.cell? ⟨w.heap.size, 3, none⟩ = some (.string d) := hO3.2.1 3)
    | (go_at_call 41; refine (rsay_all hB3.hR hr.inv n hu3.ref hf.1 hf.2 d hd n).mono ?_; rintro e w4 ⟨rfl, hp4⟩; obtain ⟨va4, hB4, hM4⟩ := hB3.ref hp4))
  all_goals (go_ret; refine ⟨yes_b fun e => by subst e; simp_all, ?_⟩; exact ⟨_, _, hB4.less fun y hy => List.mem_cons_of_mem _ hy, (hM0.trans hM3).trans hM4⟩)
set_option maxRecDepth 100000 in
set_option maxHeartbeats 8000000 in
theorem step_2 {w : World} {Z : List Nat} {k1 k2 : Nat} {uo1 uo2 u pu : Value} {c r : Cs} (h : Both w Z k1 uo1 c k2 uo2 r) (hc : Good c) (hr : Good r) {o : Op24} (hk : o.kd = 2) (ho : OpOk o) (hu : RowB w Z k1 uo1 k2 uo2 u o.o) (hpu : RowB w Z k1 uo1 k2 uo2 pu o.po) : Calls Tryz.prog 13 #[ptrV k1, ptrV k2, opV o u pu] w fun e w' => Yes (c = r) e ∧ StepPost w Z k1 uo1 c.close.1 k2 uo2 r.close.1 w' := by
  obtain ⟨pp, pl, pc, rfl⟩ := rowO_slice hpu
  obtain ⟨up, ul, uc, rfl⟩ := rowO_slice hu
  obtain ⟨kd, n, oo, d, ⟨p0, p1, p2, p3, p4, p5, p6, p7, p8, p9, p10, p11⟩, po⟩ := o
  obtain ⟨hf, hpf, hd, hpd⟩ := ho
  dsimp only at *
  subst hk
  unfold opV opC
  dsimp only
  have hB0 := h.more (.cells #[.int .i64 2, .int .i64 n, .slice up ul uc, .string d, .int .i64 p0, .bool p1, .int .i64 p2, .int .i64 p3, .int .i64 p4, .int .i64 p5, .int .i64 p6, .int .i64 p7, .int .i64 p8, .int .i64 p9, .int .i64 p10, .slice pp pl pc, .string p11] 38)
  have hO0 := own_new w #[.int .i64 2, .int .i64 n, .slice up ul uc, .string d, .int .i64 p0, .bool p1, .int .i64 p2, .int .i64 p3, .int .i64 p4, .int .i64 p5, .int .i64 p6, .int .i64 p7, .int .i64 p8, .int .i64 p9, .int .i64 p10, .slice pp pl pc, .string p11] 38
  have hal : Below w.heap.size w (w.alloc (.cells #[.int .i64 2, .int .i64 n, .slice up ul uc, .string d, .int .i64 p0, .bool p1, .int .i64 p2, .int .i64 p3, .int .i64 p4, .int .i64 p5, .int .i64 p6, .int .i64 p7, .int .i64 p8, .int .i64 p9, .int .i64 p10, .slice pp pl pc, .string p11] 38)) := (Below.refl _ _).alloc (Nat.le_refl _) _
  have hu0 := hu.more hal
  have hpu0 := hpu.more hal
  have hM0 : Mv w k1 uo1 k2 uo2 (w.alloc (.cells #[.int .i64 2, .int .i64 n, .slice up ul uc, .string d, .int .i64 p0, .bool p1, .int .i64 p2, .int .i64 p3, .int .i64 p4, .int .i64 p5, .int .i64 p6, .int .i64 p7, .int .i64 p8, .int .i64 p9, .int .i64 p10, .slice pp pl pc, .string p11] 38)) uo1 uo2 := .below hal
  go_enter Tryz.func13, Tryz.ntmps13
  go_wp2_with (first
    | (go_at_call 27; refine (close_any hB0.hC hc.inv).mono ?_; rintro e w3 ⟨rfl, hp3⟩; obtain ⟨va3, hB3, hM3⟩ := hB0.conn hp3)
    | (go_at_call 42; refine (rclose_any hB3.hR hr.inv).mono ?_; rintro e w4 ⟨rfl, hp4⟩; obtain ⟨va4, hB4, hM4⟩ := hB3.ref hp4))
  go_ret
  refine ⟨yes_b fun e => by subst e; simp, ?_⟩
  exact ⟨_, _, hB4.less fun y hy => List.mem_cons_of_mem _ hy, (hM0.trans hM3).trans hM4⟩
set_option maxRecDepth 100000 in
set_option maxHeartbeats 8000000 in
theorem step_3 {w : World} {Z : List Nat} {k1 k2 : Nat} {uo1 uo2 u pu : Value} {c r : Cs} (h : Both w Z k1 uo1 c k2 uo2 r) (hc : Good c) (hr : Good r) {o : Op24} (hk : o.kd = 3) (ho : OpOk o) (hu : RowB w Z k1 uo1 k2 uo2 u o.o) (hpu : RowB w Z k1 uo1 k2 uo2 pu o.po) : Calls Tryz.prog 13 #[ptrV k1, ptrV k2, opV o u pu] w fun e w' => Yes (c = r) e ∧ StepPost w Z k1 uo1 (c.abort o.n).1 k2 uo2 (r.abort o.n).1 w' := by
  obtain ⟨pp, pl, pc, rfl⟩ := rowO_slice hpu
  obtain ⟨up, ul, uc, rfl⟩ := rowO_slice hu
  obtain ⟨kd, n, oo, d, ⟨p0, p1, p2, p3, p4, p5, p6, p7, p8, p9, p10, p11⟩, po⟩ := o
  obtain ⟨hf, hpf, hd, hpd⟩ := ho
  dsimp only at *
  subst hk
  unfold opV opC
  dsimp only
  have hB0 := h.more (.cells #[.int .i64 3, .int .i64 n, .slice up ul uc, .string d, .int .i64 p0, .bool p1, .int .i64 p2, .int .i64 p3, .int .i64 p4, .int .i64 p5, .int .i64 p6, .int .i64 p7, .int .i64 p8, .int .i64 p9, .int .i64 p10, .slice pp pl pc, .string p11] 38)
  have hO0 := own_new w #[.int .i64 3, .int .i64 n, .slice up ul uc, .string d, .int .i64 p0, .bool p1, .int .i64 p2, .int .i64 p3, .int .i64 p4, .int .i64 p5, .int .i64 p6, .int .i64 p7, .int .i64 p8, .int .i64 p9, .int .i64 p10, .slice pp pl pc, .string p11] 38
  have hal : Below w.heap.size w (w.alloc (.cells #[.int .i64 3, .int .i64 n, .slice up ul uc, .string d, .int .i64 p0, .bool p1, .int .i64 p2, .int .i64 p3, .int .i64 p4, .int .i64 p5, .int .i64 p6, .int .i64 p7, .int .i64 p8, .int .i64 p9, .int .i64 p10, .slice pp pl pc, .string p11] 38)) := (Below.refl _ _).alloc (Nat.le_refl _) _
  have hu0 := hu.more hal
  have hpu0 := hpu.more hal
  have hM0 : Mv w k1 uo1 k2 uo2 (w.alloc (.cells #[.int .i64 3, .int .i64 n, .slice up ul uc, .string d, .int .i64 p0, .bool p1, .int .i64 p2, .int .i64 p3, .int .i64 p4, .int .i64 p5, .int .i64 p6, .int .i64 p7, .int .i64 p8, .int .i64 p9, .int .i64 p10, .slice pp pl pc, .string p11] 38)) uo1 uo2 := .below hal
  go_enter Tryz.func13, Tryz.ntmps13
  go_wp2
  generalize hW : w.alloc _ = wa at *
  clear hW
  have hd0 : Below wa.heap.size wa wa.drew := (Below.refl _ _).drew
  have hB1 := hB0.same hd0
  have hO1 := own_below hO0 hd0
  have hM1 := hM0.trans (.below hd0)
  go_region_held3 (fun w' => w'.cell? ⟨w.heap.size, 1, none⟩ = some (.int .i64 n))
    (first | exact hO1.2.1 1 | exact hO3.2.1 1 | exact hO4.2.1 1)
    (first
      | (go_at_call 28; refine (abort_any hB1.hC n).mono ?_; rintro e w3 ⟨rfl, hp3⟩; obtain ⟨va3, hB3, hM3⟩ := hB1.conn hp3; have hO3 := hB1.own hM3 (List.mem_cons_self ..) hO1)
      | (go_at_call 43; refine (rabort_any hB3.hR hr.inv n).mono ?_; rintro e w4 ⟨rfl, hp4⟩; obtain ⟨va4, hB4, hM4⟩ := hB3.ref hp4; have hO4 := hB3.own hM4 (List.mem_cons_self ..) hO3))
  go_wp2
  go_ret
  refine ⟨yes_b fun e => by subst e; simp, ?_⟩
  exact ⟨_, _, hB4.less fun y hy => List.mem_cons_of_mem _ hy, (hM1.trans hM3).trans hM4⟩
set_option maxRecDepth 100000 in
set_option maxHeartbeats 8000000 in
theorem step_7 {w : World} {Z : List Nat} {k1 k2 : Nat} {uo1 uo2 u pu : Value} {c r : Cs} (h : Both w Z k1 uo1 c k2 uo2 r) (hc : Good c) (hr : Good r) {o : Op24} (hk : o.kd = 7) (ho : OpOk o) (hu : RowB w Z k1 uo1 k2 uo2 u o.o) (hpu : RowB w Z k1 uo1 k2 uo2 pu o.po) : Calls Tryz.prog 13 #[ptrV k1, ptrV k2, opV o u pu] w fun e w' => Yes (c = r) e ∧ StepPost w Z k1 uo1 c.tick.1 k2 uo2 r.tick.1 w' := by
  obtain ⟨pp, pl, pc, rfl⟩ := rowO_slice hpu
  obtain ⟨up, ul, uc, rfl⟩ := rowO_slice hu
  obtain ⟨kd, n, oo, d, ⟨p0, p1, p2, p3, p4, p5, p6, p7, p8, p9, p10, p11⟩, po⟩ := o
  obtain ⟨hf, hpf, hd, hpd⟩ := ho
  dsimp only at *
  subst hk
  unfold opV opC
  dsimp only
  have hB0 := h.more (.cells #[.int .i64 7, .int .i64 n, .slice up ul uc, .string d, .int .i64 p0, .bool p1, .int .i64 p2, .int .i64 p3, .int .i64 p4, .int .i64 p5, .int .i64 p6, .int .i64 p7, .int .i64 p8, .int .i64 p9, .int .i64 p10, .slice pp pl pc, .string p11] 38)
  have hO0 := own_new w #[.int .i64 7, .int .i64 n, .slice up ul uc, .string d, .int .i64 p0, .bool p1, .int .i64 p2, .int .i64 p3, .int .i64 p4, .int .i64 p5, .int .i64 p6, .int .i64 p7, .int .i64 p8, .int .i64 p9, .int .i64 p10, .slice pp pl pc, .string p11] 38
  have hal : Below w.heap.size w (w.alloc (.cells #[.int .i64 7, .int .i64 n, .slice up ul uc, .string d, .int .i64 p0, .bool p1, .int .i64 p2, .int .i64 p3, .int .i64 p4, .int .i64 p5, .int .i64 p6, .int .i64 p7, .int .i64 p8, .int .i64 p9, .int .i64 p10, .slice pp pl pc, .string p11] 38)) := (Below.refl _ _).alloc (Nat.le_refl _) _
  have hu0 := hu.more hal
  have hpu0 := hpu.more hal
  have hM0 : Mv w k1 uo1 k2 uo2 (w.alloc (.cells #[.int .i64 7, .int .i64 n, .slice up ul uc, .string d, .int .i64 p0, .bool p1, .int .i64 p2, .int .i64 p3, .int .i64 p4, .int .i64 p5, .int .i64 p6, .int .i64 p7, .int .i64 p8, .int .i64 p9, .int .i64 p10, .slice pp pl pc, .string p11] 38)) uo1 uo2 := .below hal
  go_enter Tryz.func13, Tryz.ntmps13
  go_wp2_with (first
    | (go_at_call 24; refine (ctick_any hB0.hC hc.inv).mono ?_; rintro e w3 ⟨rfl, hp3⟩; obtain ⟨va3, hB3, hM3⟩ := hB0.conn hp3)
    | (go_at_call 45; refine (rtick_any hB3.hR hr.inv).mono ?_; rintro e w4 ⟨rfl, hp4⟩; obtain ⟨va4, hB4, hM4⟩ := hB3.ref hp4))
  go_ret
  refine ⟨yes_b fun e => by subst e; simp, ?_⟩
  exact ⟨_, _, hB4.less fun y hy => List.mem_cons_of_mem _ hy, (hM0.trans hM3).trans hM4⟩
set_option maxRecDepth 100000 in
set_option maxHeartbeats 8000000 in
theorem step_N {w : World} {Z : List Nat} {k1 k2 : Nat} {uo1 uo2 u pu : Value} {c r : Cs} (h : Both w Z k1 uo1 c k2 uo2 r) (hc : Good c) (hr : Good r) {o : Op24} (hk : ¬ o.kd = 0 ∧ ¬ o.kd = 1 ∧ ¬ o.kd = 2 ∧ ¬ o.kd = 3 ∧ ¬ o.kd = 4 ∧ ¬ o.kd = 5 ∧ ¬ o.kd = 6 ∧ ¬ o.kd = 7 ∧ ¬ o.kd = 8) (ho : OpOk o) (hu : RowB w Z k1 uo1 k2 uo2 u o.o) (hpu : RowB w Z k1 uo1 k2 uo2 pu o.po) : Calls Tryz.prog 13 #[ptrV k1, ptrV k2, opV o u pu] w fun e w' => Yes (c = r) e ∧ StepPost w Z k1 uo1 c k2 uo2 r w' := by
  obtain ⟨pp, pl, pc, rfl⟩ := rowO_slice hpu
  obtain ⟨up, ul, uc, rfl⟩ := rowO_slice hu
  obtain ⟨kd, n, oo, d, ⟨p0, p1, p2, p3, p4, p5, p6, p7, p8, p9, p10, p11⟩, po⟩ := o
  obtain ⟨hf, hpf, hd, hpd⟩ := ho
  dsimp only at *
  unfold opV opC
  dsimp only
  have hB0 := h.more (.cells #[.int .i64 kd, .int .i64 n, .slice up ul uc, .string d, .int .i64 p0, .bool p1, .int .i64 p2, .int .i64 p3, .int .i64 p4, .int .i64 p5, .int .i64 p6, .int .i64 p7, .int .i64 p8, .int .i64 p9, .int .i64 p10, .slice pp pl pc, .string p11] 38)
  have hO0 := own_new w #[.int .i64 kd, .int .i64 n, .slice up ul uc, .string d, .int .i64 p0, .bool p1, .int .i64 p2, .int .i64 p3, .int .i64 p4, .int .i64 p5, .int .i64 p6, .int .i64 p7, .int .i64 p8, .int .i64 p9, .int .i64 p10, .slice pp pl pc, .string p11] 38
  have hal : Below w.heap.size w (w.alloc (.cells #[.int .i64 kd, .int .i64 n, .slice up ul uc, .string d, .int .i64 p0, .bool p1, .int .i64 p2, .int .i64 p3, .int .i64 p4, .int .i64 p5, .int .i64 p6, .int .i64 p7, .int .i64 p8, .int .i64 p9, .int .i64 p10, .slice pp pl pc, .string p11] 38)) := (Below.refl _ _).alloc (Nat.le_refl _) _
  have hu0 := hu.more hal
  have hpu0 := hpu.more hal
  have hM0 : Mv w k1 uo1 k2 uo2 (w.alloc (.cells #[.int .i64 kd, .int .i64 n, .slice up ul uc, .string d, .int .i64 p0, .bool p1, .int .i64 p2, .int .i64 p3, .int .i64 p4, .int .i64 p5, .int .i64 p6, .int .i64 p7, .int .i64 p8, .int .i64 p9, .int .i64 p10, .slice pp pl pc, .string p11] 38)) uo1 uo2 := .below hal
  obtain ⟨n0, n1, n2, n3, n4, n5, n6, n7, n8⟩ := hk
  go_enter Tryz.func13, Tryz.ntmps13
  go_wp2
  go_ret
  exact ⟨yes_yes, _, _, hB0.less fun y hy => List.mem_cons_of_mem _ hy, hM0⟩
theorem nwV_eq (x : Cs.Nw) (e : Int) : nwV x e = .tuple #[.agg #[.int .i64 x.kind, .int .i64 x.seq, .int .i64 x.ack, .bool x.up, .bool x.over, .bool x.data], .int .i64 e] := rfl
theorem take_any2 {w : World} {X : List Nat} {k : Nat} {uo : Value} {c : Cs} (hs : CSat w X k uo c) (hi : CInv c) (p : Pk) {u : Value} {o : OL} (hr : RowO w (bsOf k uo ++ X) u o) (hf : o.few) (hd : p.data.size ≤ 1000000) : Calls Tryz.prog 25 #[ptrV k, p.v u] w fun e w' => e = .returned (.tuple #[.agg #[.int .i64 (c.take p o).2.1.kind, .int .i64 (c.take p o).2.1.seq, .int .i64 (c.take p o).2.1.ack, .bool (c.take p o).2.1.up, .bool (c.take p o).2.1.over, .bool (c.take p o).2.1.data], .int .i64 (c.take p o).2.2]) ∧ CPost w X k uo (c.take p o).1 w' := by
  have h := take_any hs hi p hr hf hd
  rw [nwV_eq] at h
  exact h
theorem rtake_any2 {w : World} {X : List Nat} {k : Nat} {uo : Value} {c : Cs} (hs : RSat w X k uo c) (hi : CInv c) (p : Pk) {u : Value} {o : OL} (hr : RowO w (bsOf k uo ++ X) u o) (hf : o.few) (hd : p.data.size ≤ 1000000) : Calls Tryz.prog 44 #[ptrV k, p.v u] w fun e w' => e = .returned (.tuple #[.agg #[.int .i64 (c.take p o).2.1.kind, .int .i64 (c.take p o).2.1.seq, .int .i64 (c.take p o).2.1.ack, .bool (c.take p o).2.1.up, .bool (c.take p o).2.1.over, .bool (c.take p o).2.1.data], .int .i64 (c.take p o).2.2]) ∧ RPost w X k uo (c.take p o).1 w' := by
  have h := rtake_any hs hi p hr hf hd
  rw [nwV_eq] at h
  exact h
theorem QSat.kept {w w' : World} {bad bs : List Nat} {uo : Value} {l : List QP} {qs : List (QP × Value)} (h : QSat w bad uo l qs) (hk : Keeps bs w w') (hb : ∀ b ∈ bs, b ∈ bad) : QSat w' bad uo l qs :=
  ⟨h.fst, vec_keeps h.vec hk fun b hb' hm => h.far b hb' (hb b hm), h.far, fun q hq => (h.opts q hq).kept hk hb fun b hb => .inl hb⟩
theorem rnone {w : World} {X : List Nat} {k : Nat} {uo : Value} {c : Cs} (h : RSat w X k uo c) : w.cell? ⟨k, 15, none⟩ = some uo ∧ w.frozen? ⟨k, 15, none⟩ = false ∧ RPost w X k uo c.none (w.setCell ⟨k, 15, none⟩ (.slice none 0 0)) ∧ ∃ qs, QSat (w.setCell ⟨k, 15, none⟩ (.slice none 0 0)) (k :: X) uo c.outs qs := by
  obtain ⟨ua, ug, le, tr, qs, hc⟩ := h
  have hk := keeps_set w k 15 (.slice none 0 0)
  have hr : ∀ {u : Value} {o : OL}, RowO w (bsOf k uo ++ X) u o → RowO (w.setCell ⟨k, 15, none⟩ (.slice none 0 0)) (bsOf k (.slice none 0 0) ++ X) u o := fun h => h.kept hk (fun b hb => by rw [List.mem_singleton.1 hb]; exact mem_l (bsOf_mem.2 (.inl rfl))) fun b hb => .inl (by
    rcases List.mem_append.1 hb with hb | hb
    · rcases bsOf_mem.1 hb with hb | hb
      · exact mem_l (bsOf_mem.2 (.inl hb))
      · cases hb
    · exact mem_r hb)
  have hr2 : ∀ {u : Value} {o : OL}, RowO w (bsOf k uo ++ X) u o → RowO (w.setCell ⟨k, 15, none⟩ (.slice none 0 0)) (k :: X) u o := fun h => h.kept hk (fun b hb => by rw [List.mem_singleton.1 hb]; exact mem_l (bsOf_mem.2 (.inl rfl))) fun b hb => .inl (by
    rcases List.mem_cons.1 hb with hb | hb
    · exact mem_l (bsOf_mem.2 (.inl hb))
    · exact mem_r hb)
  refine ⟨?_, hc.own.2.2 15, ⟨.slice none 0 0, ⟨ua, ug, le, tr, [], own_conv (own_set hc.own 15 (by simp [rsV15]) (.slice none 0 0)) (by simp [rsV15, Cs.none]), vec_nil _, (fun h => by cases h), hc.wt, rfl, hr hc.asks, hr hc.greets, (fun q hq => by cases hq), fun x hx => ⟨by simpa using (hc.old x hx).1, fun g => ?_⟩⟩, keeps_more hk fun b hb => by rw [List.mem_singleton.1 hb]; exact bsOf_mem.2 (.inl rfl), fun b hb => by cases hb⟩, qs, hc.fst, vec_keeps hc.q hk fun b hb hx => hc.sep (by rw [hb, List.mem_singleton.1 hx]), fun b hb hx => ?_, fun q hq => hr2 (hc.opts q hq)⟩
  · have := hc.own.2.1 15
    simpa [rsV15] using this
  · rcases bsOf_mem.1 g with g | g
    · exact (hc.old x hx).2 (bsOf_mem.2 (.inl g))
    · cases g
  · rcases List.mem_cons.1 hx with hx | hx
    · exact hc.sep (by rw [hb, hx])
    · exact (hc.old b hx).2 (bsOf_mem.2 (.inr hb))
set_option maxRecDepth 100000 in
set_option maxHeartbeats 8000000 in
theorem step_456 {w : World} {Z : List Nat} {k1 k2 : Nat} {uo1 uo2 u pu : Value} {c r : Cs} (h : Both w Z k1 uo1 c k2 uo2 r) (hc : Good c) (hr : Good r) {o : Op24} (hk : o.kd = 4 ∨ o.kd = 5 ∨ o.kd = 6) (ho : OpOk o) (hu : RowB w Z k1 uo1 k2 uo2 u o.o) (hpu : RowB w Z k1 uo1 k2 uo2 pu o.po) : Calls Tryz.prog 13 #[ptrV k1, ptrV k2, opV o u pu] w fun e w' => Yes (c = r) e ∧ StepPost w Z k1 uo1 (c.take o.p o.po).1 k2 uo2 (r.take o.p o.po).1 w' := by
  obtain ⟨pp, pl, pc, rfl⟩ := rowO_slice hpu
  obtain ⟨up, ul, uc, rfl⟩ := rowO_slice hu
  obtain ⟨kd, n, oo, d, ⟨p0, p1, p2, p3, p4, p5, p6, p7, p8, p9, p10, p11⟩, po⟩ := o
  obtain ⟨hf, hpf, hd, hpd⟩ := ho
  dsimp only at *
  unfold opV opC
  dsimp only
  have hB0 := h.more (.cells #[.int .i64 kd, .int .i64 n, .slice up ul uc, .string d, .int .i64 p0, .bool p1, .int .i64 p2, .int .i64 p3, .int .i64 p4, .int .i64 p5, .int .i64 p6, .int .i64 p7, .int .i64 p8, .int .i64 p9, .int .i64 p10, .slice pp pl pc, .string p11] 38)
  have hO0 := own_new w #[.int .i64 kd, .int .i64 n, .slice up ul uc, .string d, .int .i64 p0, .bool p1, .int .i64 p2, .int .i64 p3, .int .i64 p4, .int .i64 p5, .int .i64 p6, .int .i64 p7, .int .i64 p8, .int .i64 p9, .int .i64 p10, .slice pp pl pc, .string p11] 38
  have hal : Below w.heap.size w (w.alloc (.cells #[.int .i64 kd, .int .i64 n, .slice up ul uc, .string d, .int .i64 p0, .bool p1, .int .i64 p2, .int .i64 p3, .int .i64 p4, .int .i64 p5, .int .i64 p6, .int .i64 p7, .int .i64 p8, .int .i64 p9, .int .i64 p10, .slice pp pl pc, .string p11] 38)) := (Below.refl _ _).alloc (Nat.le_refl _) _
  have hu0 := hu.more hal
  have hpu0 := hpu.more hal
  have hM0 : Mv w k1 uo1 k2 uo2 (w.alloc (.cells #[.int .i64 kd, .int .i64 n, .slice up ul uc, .string d, .int .i64 p0, .bool p1, .int .i64 p2, .int .i64 p3, .int .i64 p4, .int .i64 p5, .int .i64 p6, .int .i64 p7, .int .i64 p8, .int .i64 p9, .int .i64 p10, .slice pp pl pc, .string p11] 38)) uo1 uo2 := .below hal
  rcases hk with rfl | rfl | rfl
  all_goals
   go_enter Tryz.func13, Tryz.ntmps13
   go_wp2_with (first
    | (go_at_call 25; refine (take_any2 hB0.hC hc.inv ⟨p0, p1, p2, p3, p4, p5, p6, p7, p8, p9, p10, p11⟩ hpu0 hpf hpd).mono ?_; rintro e w3 ⟨rfl, hp3⟩; obtain ⟨va3, hB3', hM3⟩ := hB0.conn hp3; have hO3' := hB0.own hM3 (List.mem_cons_self ..) hO0; have hpu3' := hpu0.mv hM3; have hal3 : Below w3.heap.size w3 (w3.alloc (.cells #[.int .i64 (c.take ⟨p0, p1, p2, p3, p4, p5, p6, p7, p8, p9, p10, p11⟩ po).2.1.kind, .int .i64 (c.take ⟨p0, p1, p2, p3, p4, p5, p6, p7, p8, p9, p10, p11⟩ po).2.1.seq, .int .i64 (c.take ⟨p0, p1, p2, p3, p4, p5, p6, p7, p8, p9, p10, p11⟩ po).2.1.ack, .bool (c.take ⟨p0, p1, p2, p3, p4, p5, p6, p7, p8, p9, p10, p11⟩ po).2.1.up, .bool (c.take ⟨p0, p1, p2, p3, p4, p5, p6, p7, p8, p9, p10, p11⟩ po).2.1.over, .bool (c.take ⟨p0, p1, p2, p3, p4, p5, p6, p7, p8, p9, p10, p11⟩ po).2.1.data] 55)) := (Below.refl _ _).alloc (Nat.le_refl _) _; have hB3 := hB3'.more (.cells #[.int .i64 (c.take ⟨p0, p1, p2, p3, p4, p5, p6, p7, p8, p9, p10, p11⟩ po).2.1.kind, .int .i64 (c.take ⟨p0, p1, p2, p3, p4, p5, p6, p7, p8, p9, p10, p11⟩ po).2.1.seq, .int .i64 (c.take ⟨p0, p1, p2, p3, p4, p5, p6, p7, p8, p9, p10, p11⟩ po).2.1.ack, .bool (c.take ⟨p0, p1, p2, p3, p4, p5, p6, p7, p8, p9, p10, p11⟩ po).2.1.up, .bool (c.take ⟨p0, p1, p2, p3, p4, p5, p6, p7, p8, p9, p10, p11⟩ po).2.1.over, .bool (c.take ⟨p0, p1, p2, p3, p4, p5, p6, p7, p8, p9, p10, p11⟩ po).2.1.data] 55); have hO3 := own_below hO3' hal3; have hA3 := own_new w3 #[.int .i64 (c.take ⟨p0, p1, p2, p3, p4, p5, p6, p7, p8, p9, p10, p11⟩ po).2.1.kind, .int .i64 (c.take ⟨p0, p1, p2, p3, p4, p5, p6, p7, p8, p9, p10, p11⟩ po).2.1.seq, .int .i64 (c.take ⟨p0, p1, p2, p3, p4, p5, p6, p7, p8, p9, p10, p11⟩ po).2.1.ack, .bool (c.take ⟨p0, p1, p2, p3, p4, p5, p6, p7, p8, p9, p10, p11⟩ po).2.1.up, .bool (c.take ⟨p0, p1, p2, p3, p4, p5, p6, p7, p8, p9, p10, p11⟩ po).2.1.over, .bool (c.take ⟨p0, p1, p2, p3, p4, p5, p6, p7, p8, p9, p10, p11⟩ po).2.1.data] 55; have hpu3 := hpu3'.more hal3; have z4 : (w3.alloc (.cells #[.int .i64 (c.take ⟨p0, p1, p2, p3, p4, p5, p6, p7, p8, p9, p10, p11⟩ po).2.1.kind, .int .i64 (c.take ⟨p0, p1, p2, p3, p4, p5, p6, p7, p8, p9, p10, p11⟩ po).2.1.seq, .int .i64 (c.take ⟨p0, p1, p2, p3, p4, p5, p6, p7, p8, p9, p10, p11⟩ po).2.1.ack, .bool (c.take ⟨p0, p1, p2, p3, p4, p5, p6, p7, p8, p9, p10, p11⟩ po).2.1.up, .bool (c.take ⟨p0, p1, p2, p3, p4, p5, p6, p7, p8, p9, p10, p11⟩ po).2.1.over, .bool (c.take ⟨p0, p1, p2, p3, p4, p5, p6, p7, p8, p9, p10, p11⟩ po).2.1.data] 55)).cell? ⟨w.heap.size, 4, none⟩ = some (.int .i64 p0) := hO3.2.1 4; have z5 : (w3.alloc (.cells #[.int .i64 (c.take ⟨p0, p1, p2, p3, p4, p5, p6, p7, p8, p9, p10, p11⟩ po).2.1.kind, .int .i64 (c.take ⟨p0, p1, p2, p3, p4, p5, p6, p7, p8, p9, p10, p11⟩ po).2.1.seq, .int .i64 (c.take ⟨p0, p1, p2, p3, p4, p5, p6, p7, p8, p9, p10, p11⟩ po).2.1.ack, .bool (c.take ⟨p0, p1, p2, p3, p4, p5, p6, p7, p8, p9, p10, p11⟩ po).2.1.up, .bool (c.take ⟨p0, p1, p2, p3, p4, p5, p6, p7, p8, p9, p10, p11⟩ po).2.1.over, .bool (c.take ⟨p0, p1, p2, p3, p4, p5, p6, p7, p8, p9, p10, p11⟩ po).2.1.data] 55)).cell? ⟨w.heap.size, 5, none⟩ = some (.bool p1) := hO3.2.1 5; have z6 : (w3.alloc (.cells #[.int .i64 (c.take ⟨p0, p1, p2, p3, p4, p5, p6, p7, p8, p9, p10, p11⟩ po).2.1.kind, .int .i64 (c.take ⟨p0, p1, p2, p3, p4, p5, p6, p7, p8, p9, p10, p11⟩ po).2.1.seq, .int .i64 (c.take ⟨p0, p1, p2, p3, p4, p5, p6, p7, p8, p9, p10, p11⟩ po).2.1.ack, .bool (c.take ⟨p0, p1, p2, p3, p4, p5, p6, p7, p8, p9, p10, p11⟩ po).2.1.up, .bool (c.take ⟨p0, p1, p2, p3, p4, p5, p6, p7, p8, p9, p10, p11⟩ po).2.1.over, .bool (c.take ⟨p0, p1, p2, p3, p4, p5, p6, p7, p8, p9, p10, p11⟩ po).2.1.data] 55)).cell? ⟨w.heap.size, 6, none⟩ = some (.int .i64 p2) := hO3.2.1 6; have z7 : (w3.alloc (.cells #[.int .i64 (c.take ⟨p0, p1, p2, p3, p4, p5, p6, p7, p8, p9, p10, p11⟩ po).2.1.kind, .int .i64 (c.take ⟨p0, p1, p2, p3, p4, p5, p6, p7, p8, p9, p10, p11⟩ po).2.1.seq, .int .i64 (c.take ⟨p0, p1, p2, p3, p4, p5, p6, p7, p8, p9, p10, p11⟩ po).2.1.ack, .bool (c.take ⟨p0, p1, p2, p3, p4, p5, p6, p7, p8, p9, p10, p11⟩ po).2.1.up, .bool (c.take ⟨p0, p1, p2, p3, p4, p5, p6, p7, p8, p9, p10, p11⟩ po).2.1.over, .bool (c.take ⟨p0, p1, p2, p3, p4, p5, p6, p7, p8, p9, p10, p11⟩ po).2.1.data] 55)).cell? ⟨w.heap.size, 7, none⟩ = some (.int .i64 p3) := hO3.2.1 7; have z8 : (w3.alloc (.cells #[.int .i64 (c.take ⟨p0, p1, p2, p3, p4, p5, p6, p7, p8, p9, p10, p11⟩ po).2.1.kind, .int .i64 (c.take ⟨p0, p1, p2, p3, p4, p5, p6, p7, p8, p9, p10, p11⟩ po).2.1.seq, .int .i64 (c.take ⟨p0, p1, p2, p3, p4, p5, p6, p7, p8, p9, p10, p11⟩ po).2.1.ack, .bool (c.take ⟨p0, p1, p2, p3, p4, p5, p6, p7, p8, p9, p10, p11⟩ po).2.1.up, .bool (c.take ⟨p0, p1, p2, p3, p4, p5, p6, p7, p8, p9, p10, p11⟩ po).2.1.over, .bool (c.take ⟨p0, p1, p2, p3, p4, p5, p6, p7, p8, p9, p10, p11⟩ po).2.1.data] 55)).cell? ⟨w.heap.size, 8, none⟩ = some (.int .i64 p4) := hO3.2.1 8; have z9 : (w3.alloc (.cells #[.int .i64 (c.take ⟨p0, p1, p2, p3, p4, p5, p6, p7, p8, p9, p10, p11⟩ po).2.1.kind, .int .i64 (c.take ⟨p0, p1, p2, p3, p4, p5, p6, p7, p8, p9, p10, p11⟩ po).2.1.seq, .int .i64 (c.take ⟨p0, p1, p2, p3, p4, p5, p6, p7, p8, p9, p10, p11⟩ po).2.1.ack, .bool (c.take ⟨p0, p1, p2, p3, p4, p5, p6, p7, p8, p9, p10, p11⟩ po).2.1.up, .bool (c.take ⟨p0, p1, p2, p3, p4, p5, p6, p7, p8, p9, p10, p11⟩ po).2.1.over, .bool (c.take ⟨p0, p1, p2, p3, p4, p5, p6, p7, p8, p9, p10, p11⟩ po).2.1.data] 55)).cell? ⟨w.heap.size, 9, none⟩ = some (.int .i64 p5) := hO3.2.1 9; have z10 : (w3.alloc (.cells #[.int .i64 (c.take ⟨p0, p1, p2, p3, p4, p5, p6, p7, p8, p9, p10, p11⟩ po).2.1.kind, .int .i64 (c.take ⟨p0, p1, p2, p3, p4, p5, p6, p7, p8, p9, p10, p11⟩ po).2.1.seq, .int .i64 (c.take ⟨p0, p1, p2, p3, p4, p5, p6, p7, p8, p9, p10, p11⟩ po).2.1.ack, .bool (c.take ⟨p0, p1, p2, p3, p4, p5, p6, p7, p8, p9, p10, p11⟩ po).2.1.up, .bool (c.take ⟨p0, p1, p2, p3, p4, p5, p6, p7, p8, p9, p10, p11⟩ po).2.1.over, .bool (c.take ⟨p0, p1, p2, p3, p4, p5, p6, p7, p8, p9, p10, p11⟩ po).2.1.data] 55)).cell? ⟨w.heap.size, 10, none⟩ = some (.int .i64 p6) := hO3.2.1 10; have z11 : (w3.alloc (.cells #[.int .i64 (c.take ⟨p0, p1, p2, p3, p4, p5, p6, p7, p8, p9, p10, p11⟩ po).2.1.kind, .int .i64 (c.take ⟨p0, p1, p2, p3, p4, p5, p6, p7, p8, p9, p10, p11⟩ po).2.1.seq, .int .i64 (c.take ⟨p0, p1, p2, p3, p4, p5, p6, p7, p8, p9, p10, p11⟩ po).2.1.ack, .bool (c.take ⟨p0, p1, p2, p3, p4, p5, p6, p7, p8, p9, p10, p11⟩ po).2.1.up, .bool (c.take ⟨p0, p1, p2, p3, p4, p5, p6, p7, p8, p9, p10, p11⟩ po).2.1.over, .bool (c.take ⟨p0, p1, p2, p3, p4, p5, p6, p7, p8, p9, p10, p11⟩ po).2.1.data] 55)).cell? ⟨w.heap.size, 11, none⟩ = some (.int .i64 p7) := hO3.2.1 11; have z12 : (w3.alloc (.cells #[.int .i64 (c.take ⟨p0, p1, p2, p3, p4, p5, p6, p7, p8, p9, p10, p11⟩ po).2.1.kind, .int .i64 (c.take ⟨p0, p1, p2, p3, p4, p5, p6, p7, p8, p9, p10, p11⟩ po).2.1.seq, .int .i64 (c.take ⟨p0, p1, p2, p3, p4, p5, p6, p7, p8, p9, p10, p11⟩ po).2.1.ack, .bool (c.take ⟨p0, p1, p2, p3, p4, p5, p6, p7, p8, p9, p10, p11⟩ po).2.1.up, .bool (c.take ⟨p0, p1, p2, p3, p4, p5, p6, p7, p8, p9, p10, p11⟩ po).2.1.over, .bool (c.take ⟨p0, p1, p2, p3, p4, p5, p6, p7, p8, p9, p10, p11⟩ po).2.1.data] 55)).cell? ⟨w.heap.size, 12, none⟩ = some (.int .i64 p8) := hO3.2.1 12; have z13 : (w3.alloc (.cells #[.int .i64 (c.take ⟨p0, p1, p2, p3, p4, p5, p6, p7, p8, p9, p10, p11⟩ po).2.1.kind, .int .i64 (c.take ⟨p0, p1, p2, p3, p4, p5, p6, p7, p8, p9, p10, p11⟩ po).2.1.seq, .int .i64 (c.take ⟨p0, p1, p2, p3, p4, p5, p6, p7, p8, p9, p10, p11⟩ po).2.1.ack, .bool (c.take ⟨p0, p1, p2, p3, p4, p5, p6, p7, p8, p9, p10, p11⟩ po).2.1.up, .bool (c.take ⟨p0, p1, p2, p3, p4, p5, p6, p7, p8, p9, p10, p11⟩ po).2.1.over, .bool (c.take ⟨p0, p1, p2, p3, p4, p5, p6, p7, p8, p9, p10, p11⟩ po).2.1.data] 55)).cell? ⟨w.heap.size, 13, none⟩ = some (.int .i64 p9) := hO3.2.1 13; have z14 : (w3.alloc (.cells #[.int .i64 (c.take ⟨p0, p1, p2, p3, p4, p5, p6, p7, p8, p9, p10, p11⟩ po).2.1.kind, .int .i64 (c.take ⟨p0, p1, p2, p3, p4, p5, p6, p7, p8, p9, p10, p11⟩ po).2.1.seq, .int .i64 (c.take ⟨p0, p1, p2, p3, p4, p5, p6, p7, p8, p9, p10, p11⟩ po).2.1.ack, .bool (c.take ⟨p0, p1, p2, p3, p4, p5, p6, p7, p8, p9, p10, p11⟩ po).2.1.up, .bool (c.take ⟨p0, p1, p2, p3, p4, p5, p6, p7, p8, p9, p10, p11⟩ po).2.1.over, .bool (c.take ⟨p0, p1, p2, p3, p4, p5, p6, p7, p8, p9, p10, p11⟩ po).2.1.data] 55)).cell? ⟨w.heap.size, 14, none⟩ = some (.int .i64 p10) := hO3.2.1 14; have z15 : (w3.alloc (.cells #[.int .i64 (c.take ⟨p0, p1, p2, p3, p4, p5, p6, p7, p8, p9, p10, p11⟩ po).2.1.kind, .int .i64 (c.take ⟨p0, p1, p2, p3, p4, p5, p6, p7, p8, p9, p10, p11⟩ po).2.1.seq, .int .i64 (c.take ⟨p0, p1, p2, p3, p4, p5, p6, p7, p8, p9, p10, p11⟩ po).2.1.ack, .bool (c.take ⟨p0, p1, p2, p3, p4, p5, p6, p7, p8, p9, p10, p11⟩ po).2.1.up, .bool (c.take ⟨p0, p1, p2, p3, p4, p5, p6, p7, p8, p9, p10, p11⟩ po).2.1.over, .bool (c.take ⟨p0, p1, p2, p3, p4, p5, p6, p7, p8, p9, p10, p11⟩ po).2.1.data] 55)).cell? ⟨w.heap.size, 15, none⟩ = some (.slice pp pl pc) := hO3.2.1 15; have z16 : (w3.alloc (.cells #[.int .i64 (c.take ⟨p0, p1, p2, p3, p4, p5, p6, p7, p8, p9, p10, p11⟩ po).2.1.kind, .int .i64 (c.take ⟨p0, p1, p2, p3, p4, p5, p6, p7, p8, p9, p10, p11⟩ po).2.1.seq, .int .i64 (c.take ⟨p0, p1, p2, p3, p4, p5, p6, p7, p8, p9, p10, p11⟩ po).2.1.ack, .bool (c.take ⟨p0, p1, p2, p3, p4, p5, p6, p7, p8, p9, p10, p11⟩ po).2.1.up, .bool (c.take ⟨p0, p1, p2, p3, p4, p5, p6, p7, p8, p9, p10, p11⟩ po).2.1.over, .bool (c.take ⟨p0, p1, p2, p3, p4, p5, p6, p7, p8, p9, p10, p11⟩ po).2.1.data] 55)).cell? ⟨w.heap.size, 16, none⟩ = some (.string p11) := hO3.2.1 16)
    | (go_at_call 44; refine (rtake_any2 hB3.hR hr.inv ⟨p0, p1, p2, p3, p4, p5, p6, p7, p8, p9, p10, p11⟩ hpu3.ref hpf hpd).mono ?_; rintro e w4 ⟨rfl, hp4⟩; obtain ⟨va4, hB4, hM4⟩ := hB3.ref hp4; have hA4 := hB3.own hM4 (List.mem_cons_self ..) hA3; have hal4 : Below w4.heap.size w4 (w4.alloc (.cells #[.int .i64 (r.take ⟨p0, p1, p2, p3, p4, p5, p6, p7, p8, p9, p10, p11⟩ po).2.1.kind, .int .i64 (r.take ⟨p0, p1, p2, p3, p4, p5, p6, p7, p8, p9, p10, p11⟩ po).2.1.seq, .int .i64 (r.take ⟨p0, p1, p2, p3, p4, p5, p6, p7, p8, p9, p10, p11⟩ po).2.1.ack, .bool (r.take ⟨p0, p1, p2, p3, p4, p5, p6, p7, p8, p9, p10, p11⟩ po).2.1.up, .bool (r.take ⟨p0, p1, p2, p3, p4, p5, p6, p7, p8, p9, p10, p11⟩ po).2.1.over, .bool (r.take ⟨p0, p1, p2, p3, p4, p5, p6, p7, p8, p9, p10, p11⟩ po).2.1.data] 73)) := (Below.refl _ _).alloc (Nat.le_refl _) _; have hB5 := hB4.same hal4; have hA5 := own_below hA4 hal4; have hD5 := own_new w4 #[.int .i64 (r.take ⟨p0, p1, p2, p3, p4, p5, p6, p7, p8, p9, p10, p11⟩ po).2.1.kind, .int .i64 (r.take ⟨p0, p1, p2, p3, p4, p5, p6, p7, p8, p9, p10, p11⟩ po).2.1.seq, .int .i64 (r.take ⟨p0, p1, p2, p3, p4, p5, p6, p7, p8, p9, p10, p11⟩ po).2.1.ack, .bool (r.take ⟨p0, p1, p2, p3, p4, p5, p6, p7, p8, p9, p10, p11⟩ po).2.1.up, .bool (r.take ⟨p0, p1, p2, p3, p4, p5, p6, p7, p8, p9, p10, p11⟩ po).2.1.over, .bool (r.take ⟨p0, p1, p2, p3, p4, p5, p6, p7, p8, p9, p10, p11⟩ po).2.1.data] 73; have y0 : (w4.alloc (.cells #[.int .i64 (r.take ⟨p0, p1, p2, p3, p4, p5, p6, p7, p8, p9, p10, p11⟩ po).2.1.kind, .int .i64 (r.take ⟨p0, p1, p2, p3, p4, p5, p6, p7, p8, p9, p10, p11⟩ po).2.1.seq, .int .i64 (r.take ⟨p0, p1, p2, p3, p4, p5, p6, p7, p8, p9, p10, p11⟩ po).2.1.ack, .bool (r.take ⟨p0, p1, p2, p3, p4, p5, p6, p7, p8, p9, p10, p11⟩ po).2.1.up, .bool (r.take ⟨p0, p1, p2, p3, p4, p5, p6, p7, p8, p9, p10, p11⟩ po).2.1.over, .bool (r.take ⟨p0, p1, p2, p3, p4, p5, p6, p7, p8, p9, p10, p11⟩ po).2.1.data] 73)).cell? ⟨w3.heap.size, 0, none⟩ = some (.int .i64 (c.take ⟨p0, p1, p2, p3, p4, p5, p6, p7, p8, p9, p10, p11⟩ po).2.1.kind) := hA5.2.1 0; have y1 : (w4.alloc (.cells #[.int .i64 (r.take ⟨p0, p1, p2, p3, p4, p5, p6, p7, p8, p9, p10, p11⟩ po).2.1.kind, .int .i64 (r.take ⟨p0, p1, p2, p3, p4, p5, p6, p7, p8, p9, p10, p11⟩ po).2.1.seq, .int .i64 (r.take ⟨p0, p1, p2, p3, p4, p5, p6, p7, p8, p9, p10, p11⟩ po).2.1.ack, .bool (r.take ⟨p0, p1, p2, p3, p4, p5, p6, p7, p8, p9, p10, p11⟩ po).2.1.up, .bool (r.take ⟨p0, p1, p2, p3, p4, p5, p6, p7, p8, p9, p10, p11⟩ po).2.1.over, .bool (r.take ⟨p0, p1, p2, p3, p4, p5, p6, p7, p8, p9, p10, p11⟩ po).2.1.data] 73)).cell? ⟨w3.heap.size, 1, none⟩ = some (.int .i64 (c.take ⟨p0, p1, p2, p3, p4, p5, p6, p7, p8, p9, p10, p11⟩ po).2.1.seq) := hA5.2.1 1; have y2 : (w4.alloc (.cells #[.int .i64 (r.take ⟨p0, p1, p2, p3, p4, p5, p6, p7, p8, p9, p10, p11⟩ po).2.1.kind, .int .i64 (r.take ⟨p0, p1, p2, p3, p4, p5, p6, p7, p8, p9, p10, p11⟩ po).2.1.seq, .int .i64 (r.take ⟨p0, p1, p2, p3, p4, p5, p6, p7, p8, p9, p10, p11⟩ po).2.1.ack, .bool (r.take ⟨p0, p1, p2, p3, p4, p5, p6, p7, p8, p9, p10, p11⟩ po).2.1.up, .bool (r.take ⟨p0, p1, p2, p3, p4, p5, p6, p7, p8, p9, p10, p11⟩ po).2.1.over, .bool (r.take ⟨p0, p1, p2, p3, p4, p5, p6, p7, p8, p9, p10, p11⟩ po).2.1.data] 73)).cell? ⟨w3.heap.size, 2, none⟩ = some (.int .i64 (c.take ⟨p0, p1, p2, p3, p4, p5, p6, p7, p8, p9, p10, p11⟩ po).2.1.ack) := hA5.2.1 2; have y3 : (w4.alloc (.cells #[.int .i64 (r.take ⟨p0, p1, p2, p3, p4, p5, p6, p7, p8, p9, p10, p11⟩ po).2.1.kind, .int .i64 (r.take ⟨p0, p1, p2, p3, p4, p5, p6, p7, p8, p9, p10, p11⟩ po).2.1.seq, .int .i64 (r.take ⟨p0, p1, p2, p3, p4, p5, p6, p7, p8, p9, p10, p11⟩ po).2.1.ack, .bool (r.take ⟨p0, p1, p2, p3, p4, p5, p6, p7, p8, p9, p10, p11⟩ po).2.1.up, .bool (r.take ⟨p0, p1, p2, p3, p4, p5, p6, p7, p8, p9, p10, p11⟩ po).2.1.over, .bool (r.take ⟨p0, p1, p2, p3, p4, p5, p6, p7, p8, p9, p10, p11⟩ po).2.1.data] 73)).cell? ⟨w3.heap.size, 3, none⟩ = some (.bool (c.take ⟨p0, p1, p2, p3, p4, p5, p6, p7, p8, p9, p10, p11⟩ po).2.1.up) := hA5.2.1 3; have y4 : (w4.alloc (.cells #[.int .i64 (r.take ⟨p0, p1, p2, p3, p4, p5, p6, p7, p8, p9, p10, p11⟩ po).2.1.kind, .int .i64 (r.take ⟨p0, p1, p2, p3, p4, p5, p6, p7, p8, p9, p10, p11⟩ po).2.1.seq, .int .i64 (r.take ⟨p0, p1, p2, p3, p4, p5, p6, p7, p8, p9, p10, p11⟩ po).2.1.ack, .bool (r.take ⟨p0, p1, p2, p3, p4, p5, p6, p7, p8, p9, p10, p11⟩ po).2.1.up, .bool (r.take ⟨p0, p1, p2, p3, p4, p5, p6, p7, p8, p9, p10, p11⟩ po).2.1.over, .bool (r.take ⟨p0, p1, p2, p3, p4, p5, p6, p7, p8, p9, p10, p11⟩ po).2.1.data] 73)).cell? ⟨w3.heap.size, 4, none⟩ = some (.bool (c.take ⟨p0, p1, p2, p3, p4, p5, p6, p7, p8, p9, p10, p11⟩ po).2.1.over) := hA5.2.1 4; have y5 : (w4.alloc (.cells #[.int .i64 (r.take ⟨p0, p1, p2, p3, p4, p5, p6, p7, p8, p9, p10, p11⟩ po).2.1.kind, .int .i64 (r.take ⟨p0, p1, p2, p3, p4, p5, p6, p7, p8, p9, p10, p11⟩ po).2.1.seq, .int .i64 (r.take ⟨p0, p1, p2, p3, p4, p5, p6, p7, p8, p9, p10, p11⟩ po).2.1.ack, .bool (r.take ⟨p0, p1, p2, p3, p4, p5, p6, p7, p8, p9, p10, p11⟩ po).2.1.up, .bool (r.take ⟨p0, p1, p2, p3, p4, p5, p6, p7, p8, p9, p10, p11⟩ po).2.1.over, .bool (r.take ⟨p0, p1, p2, p3, p4, p5, p6, p7, p8, p9, p10, p11⟩ po).2.1.data] 73)).cell? ⟨w3.heap.size, 5, none⟩ = some (.bool (c.take ⟨p0, p1, p2, p3, p4, p5, p6, p7, p8, p9, p10, p11⟩ po).2.1.data) := hA5.2.1 5))
   all_goals (go_ret; refine ⟨yes_b fun e => by subst e; simp_all, ?_⟩; exact ⟨_, _, hB5.less fun y hy => List.mem_cons_of_mem _ (List.mem_cons_of_mem _ hy), (((hM0.trans hM3).trans (.below hal3)).trans hM4).trans (.below hal4)⟩)
set_option maxRecDepth 100000 in
set_option maxHeartbeats 8000000 in
theorem step_8 {w : World} {Z : List Nat} {k1 k2 : Nat} {uo1 uo2 u pu : Value} {c r : Cs} (h : Both w Z k1 uo1 c k2 uo2 r) (hc : Good c) (hr : Good r) {o : Op24} (hk : o.kd = 8) (ho : OpOk o) (hu : RowB w Z k1 uo1 k2 uo2 u o.o) (hpu : RowB w Z k1 uo1 k2 uo2 pu o.po) : Calls Tryz.prog 13 #[ptrV k1, ptrV k2, opV o u pu] w fun e w' => Yes (c = r) e ∧ StepPost w Z k1 uo1 c.none k2 uo2 r.none w' := by
  obtain ⟨pp, pl, pc, rfl⟩ := rowO_slice hpu
  obtain ⟨up, ul, uc, rfl⟩ := rowO_slice hu
  obtain ⟨kd, n, oo, d, ⟨p0, p1, p2, p3, p4, p5, p6, p7, p8, p9, p10, p11⟩, po⟩ := o
  obtain ⟨hf, hpf, hd, hpd⟩ := ho
  dsimp only at *
  subst hk
  unfold opV opC
  dsimp only
  have hB0 := h.more (.cells #[.int .i64 8, .int .i64 n, .slice up ul uc, .string d, .int .i64 p0, .bool p1, .int .i64 p2, .int .i64 p3, .int .i64 p4, .int .i64 p5, .int .i64 p6, .int .i64 p7, .int .i64 p8, .int .i64 p9, .int .i64 p10, .slice pp pl pc, .string p11] 38)
  have hO0 := own_new w #[.int .i64 8, .int .i64 n, .slice up ul uc, .string d, .int .i64 p0, .bool p1, .int .i64 p2, .int .i64 p3, .int .i64 p4, .int .i64 p5, .int .i64 p6, .int .i64 p7, .int .i64 p8, .int .i64 p9, .int .i64 p10, .slice pp pl pc, .string p11] 38
  have hal : Below w.heap.size w (w.alloc (.cells #[.int .i64 8, .int .i64 n, .slice up ul uc, .string d, .int .i64 p0, .bool p1, .int .i64 p2, .int .i64 p3, .int .i64 p4, .int .i64 p5, .int .i64 p6, .int .i64 p7, .int .i64 p8, .int .i64 p9, .int .i64 p10, .slice pp pl pc, .string p11] 38)) := (Below.refl _ _).alloc (Nat.le_refl _) _
  have hu0 := hu.more hal
  have hpu0 := hpu.more hal
  have hM0 : Mv w k1 uo1 k2 uo2 (w.alloc (.cells #[.int .i64 8, .int .i64 n, .slice up ul uc, .string d, .int .i64 p0, .bool p1, .int .i64 p2, .int .i64 p3, .int .i64 p4, .int .i64 p5, .int .i64 p6, .int .i64 p7, .int .i64 p8, .int .i64 p9, .int .i64 p10, .slice pp pl pc, .string p11] 38)) uo1 uo2 := .below hal
  obtain ⟨y15, f15, hp3, qs2, hq2⟩ := rnone hB0.hR
  obtain ⟨va3, hB3, hM3⟩ := hB0.ref hp3
  go_enter Tryz.func13, Tryz.ntmps13
  go_wp2_with (first
    | (go_at_call 18; refine (outs_any hB3.hC).mono ?_; rintro e w4 ⟨rfl, hs4, hk4, qs1, hq1⟩; obtain ⟨va4, hB4, hM4⟩ := hB3.conn ⟨_, hs4, hk4, fun b hb => by cases hb⟩; have hq4 := hq2.kept hk4 (fun b hb => List.mem_cons_of_mem _ (mem_l hb)))
    | (go_at_call 17; refine (packets_any hq1 hq4 hc.inv.outs).mono ?_; rintro e w5 ⟨⟨β, rfl, hy⟩, hb5⟩; have hB5 := hB4.same hb5))
  go_ret
  refine ⟨⟨β, rfl, fun e => hy (by rw [e])⟩, ?_⟩
  exact ⟨_, _, hB5.less fun y hy => List.mem_cons_of_mem _ hy, ((hM0.trans hM3).trans hM4).trans (.below hb5)⟩
theorem step_any {w : World} {Z : List Nat} {k1 k2 : Nat} {uo1 uo2 u pu : Value} {c r : Cs} (h : Both w Z k1 uo1 c k2 uo2 r) (hc : Good c) (hr : Good r) {o : Op24} (ho : OpOk o) (hu : RowB w Z k1 uo1 k2 uo2 u o.o) (hpu : RowB w Z k1 uo1 k2 uo2 pu o.po) : Calls Tryz.prog 13 #[ptrV k1, ptrV k2, opV o u pu] w fun e w' => Yes (c = r) e ∧ StepPost w Z k1 uo1 (c.step o) k2 uo2 (r.step o) w' := by
  unfold Cs.step
  by_cases h0 : o.kd = 0
  · rw [if_pos h0, if_pos h0]; exact step_0 h hr h0 ho hu (rowO_slice hpu)
  rw [if_neg h0, if_neg h0]
  by_cases h1 : o.kd = 1
  · rw [if_pos h1, if_pos h1]; exact step_1 h hc hr h1 ho hu hpu
  rw [if_neg h1, if_neg h1]
  by_cases h2 : o.kd = 2
  · rw [if_pos h2, if_pos h2]; exact step_2 h hc hr h2 ho hu hpu
  rw [if_neg h2, if_neg h2]
  by_cases h3 : o.kd = 3
  · rw [if_pos h3, if_pos h3]; exact step_3 h hc hr h3 ho hu hpu
  rw [if_neg h3, if_neg h3]
  by_cases h4 : o.kd = 4 ∨ o.kd = 5 ∨ o.kd = 6
  · rw [if_pos h4, if_pos h4]
    exact step_456 h hc hr h4 ho hu hpu
  rw [if_neg h4, if_neg h4]
  by_cases h7 : o.kd = 7
  · rw [if_pos h7, if_pos h7]; exact step_7 h hc hr h7 ho hu hpu
  rw [if_neg h7, if_neg h7]
  by_cases h8 : o.kd = 8
  · rw [if_pos h8, if_pos h8]; exact step_8 h hc hr h8 ho hu hpu
  rw [if_neg h8, if_neg h8]
  exact step_N h hc hr ⟨h0, h1, h2, h3, fun e => h4 (.inl e), fun e => h4 (.inr (.inl e)), fun e => h4 (.inr (.inr e)), h7, h8⟩ ho hu hpu
structure OpAt (w : World) (a : Addr) (i : Nat) (o : Op24) (u pu : Value) : Prop where
  c0 : w.cell? (a.add (i * 17)) = some (.int .i64 o.kd)
  c1 : w.cell? ⟨(a.add (i * 17)).block, (a.add (i * 17)).off + 1, none⟩ = some (.int .i64 o.n)
  c2 : w.cell? ⟨(a.add (i * 17)).block, (a.add (i * 17)).off + 2, none⟩ = some u
  c3 : w.cell? ⟨(a.add (i * 17)).block, (a.add (i * 17)).off + 3, none⟩ = some (.string o.d)
  pk : PkAt w (a.add (i * 17)).block ((a.add (i * 17)).off + 4) o.p pu
theorem OpAt.of {w w' : World} {a : Addr} {i : Nat} {o : Op24} {u pu : Value} (h : OpAt w a i o u pu) (e : ∀ {a : Addr} {v : Value}, w.cell? a = some v → w'.cell? a = some v) : OpAt w' a i o u pu :=
  ⟨e h.c0, e h.c1, e h.c2, e h.c3, h.pk.of e⟩
structure OpIn (w : World) (p : Option Addr) (i : Nat) (o : Op24) (u pu : Value) : Prop where
  at' : ∃ a, p = some a ∧ OpAt w a i o u pu
  ru : RowO w [] u o.o
  rp : RowO w [] pu o.po
  n1 : o.o.n ≤ maxLen
  n2 : o.po.n ≤ maxLen
def OpsAt (w : World) (p : Option Addr) (n : Nat) (ops : Nat → Op24) (us pus : Nat → Value) : Prop := ∀ i, i < n → OpIn w p i (ops i) (us i) (pus i)
theorem rowO_below {w w' : World} {u : Value} {o : OL} (h : RowO w [] u o) (hb : Below w.heap.size w w') : RowO w' [] u o := h.kept (keeps_below hb []) (fun _ h => by cases h) fun _ h => by cases h
theorem OpIn.below {w w' : World} {p : Option Addr} {i : Nat} {o : Op24} {u pu : Value} (h : OpIn w p i o u pu) (hb : Below w.heap.size w w') : OpIn w' p i o u pu := by
  obtain ⟨⟨a, ha, h1⟩, h2, h3, h4, h5⟩ := h
  exact ⟨⟨a, ha, h1.of (old_cell hb)⟩, rowO_below h2 hb, rowO_below h3 hb, h4, h5⟩
theorem rowO_old {w w' : World} {bad : List Nat} {u : Value} {o : OL} (h : RowO w [] u o) (hb : Below w.heap.size w w') (hn : ∀ b ∈ bad, w.heap.size ≤ b) : RowO w' bad u o :=
  h.kept (keeps_below hb []) (fun _ h => by cases h) fun b hb => .inr (hn b hb)
set_option maxRecDepth 100000 in
theorem law10_great {w : World} (p : Pk) {u : Value} {o : OL} (hr : RowO w [] u o) (hn : o.n ≤ maxLen) : Calls Tryz.prog 29 #[p.v u] w fun e w' => e = .returned (.bool (greatL o.n o.g || decide (p.data.size > 1000))) ∧ Below w.heap.size w w' := by
  obtain ⟨pp, pl, pc, rfl⟩ := rowO_slice hr
  have hg : ∀ w', Below w.heap.size w w' → Calls Tryz.prog 8 #[.slice pp pl pc] w' fun e w'' => e = .returned (.bool (greatL o.n o.g)) ∧ Below w'.heap.size w' w'' := fun w' hb => law07_great o.n o.g hn _ w' (rowO_below hr hb).row
  obtain ⟨p0, p1, p2, p3, p4, p5, p6, p7, p8, p9, p10, p11⟩ := p
  unfold Pk.v
  dsimp only
  have hal : Below w.heap.size w (w.alloc (.cells #[.int .i64 p0, .bool p1, .int .i64 p2, .int .i64 p3, .int .i64 p4, .int .i64 p5, .int .i64 p6, .int .i64 p7, .int .i64 p8, .int .i64 p9, .int .i64 p10, .slice pp pl pc, .string p11] 36)) := (Below.refl _ _).alloc (Nat.le_refl _) _
  have hO0 := own_new w #[.int .i64 p0, .bool p1, .int .i64 p2, .int .i64 p3, .int .i64 p4, .int .i64 p5, .int .i64 p6, .int .i64 p7, .int .i64 p8, .int .i64 p9, .int .i64 p10, .slice pp pl pc, .string p11] 36
  have hgr := hg _ hal
  clear hg hr
  generalize greatL o.n o.g = gr at *
  cases gr
  · by_cases hd : p11.size > 1000
    · have hd' : (p11.size : Int) > 1000 := by omega
      rw [decide_eq_true hd]
      go_enter Tryz.func29, Tryz.ntmps29
      go_wp2_with (first
        | (go_at_call 8; refine hgr.mono ?_; rintro e w1 ⟨rfl, hb1⟩; have z : w1.cell? ⟨w.heap.size, 12, none⟩ = some (.string p11) := (own_below hO0 hb1).2.1 12))
      go_ret
      exact ⟨rfl, hal.trans (hb1.mono hal.size)⟩
    · have hd' : ¬ (p11.size : Int) > 1000 := by omega
      rw [decide_eq_false hd]
      go_enter Tryz.func29, Tryz.ntmps29
      go_wp2_with (first
        | (go_at_call 8; refine hgr.mono ?_; rintro e w1 ⟨rfl, hb1⟩; have z : w1.cell? ⟨w.heap.size, 12, none⟩ = some (.string p11) := (own_below hO0 hb1).2.1 12))
      go_ret
      exact ⟨by show Ending.returned (.bool (decide ((1000 : Int) < p11.size))) = .returned (.bool false); rw [decide_eq_false (by omega)], hal.trans (hb1.mono hal.size)⟩
  · go_enter Tryz.func29, Tryz.ntmps29
    go_wp2_with (first
      | (go_at_call 8; refine hgr.mono ?_; rintro e w1 ⟨rfl, hb1⟩))
    go_ret
    exact ⟨rfl, hal.trans (hb1.mono hal.size)⟩
theorem few_ok {o : OL} (h : greatL o.n o.g = false) : o.few ∧ o.n ≤ 100 := by
  obtain ⟨h1, h2⟩ := greatL_few h
  exact ⟨⟨by omega, fun i hi => Nat.le_trans (h2 i hi) (by decide)⟩, by omega⟩
def GreatNo (n : Nat) (ops : Nat → Op24) (e : Ending) : Prop := ∃ β : Bool, e = .returned (.bool β) ∧ (β = false → n ≤ 60 ∧ ∀ i, i < n → OpOk (ops i))
theorem great_yes {n : Nat} {ops : Nat → Op24} : GreatNo n ops (.returned (.bool true)) := ⟨true, rfl, fun h => by cases h⟩
theorem great_not {n : Nat} {ops : Nat → Op24} (h : n ≤ 60 ∧ ∀ i, i < n → OpOk (ops i)) : GreatNo n ops (.returned (.bool false)) := ⟨false, rfl, fun _ => h⟩
set_option maxRecDepth 100000 in
set_option maxHeartbeats 8000000 in
theorem great_any {w : World} {p : Option Addr} {n cap : Nat} {ops : Nat → Op24} {us pus : Nat → Value} (h : OpsAt w p n ops us pus) (hn : n ≤ maxLen) : Calls Tryz.prog 7 #[.slice p n cap] w fun e w' => GreatNo n ops e ∧ Below w.heap.size w w' := by
  go_enter Tryz.func7, Tryz.ntmps7
  go_wp2
  go_loopw [3] (fun u3 wr => ∃ i : Nat, u3 = .int .i64 i ∧ i ≤ n ∧ (i ≤ 60 ∧ ∀ j, j < i → OpOk (ops j)) ∧ Below w.heap.size w wr)
    (fun u3 _ => n - idxV u3)
  case atStart => exact ⟨0, rfl, Nat.zero_le _, ⟨Nat.zero_le _, fun j hj => absurd hj (Nat.not_lt_zero _)⟩, Below.refl _ _⟩
  case round =>
    obtain ⟨i, rfl, hi, hsm, hb⟩ := hrel
    by_cases hin : i < n
    · obtain ⟨⟨a, rfl, hA⟩, hru, hrp, hn1, hn2⟩ := (h i hin).below hb
      obtain ⟨up, ul, uc, hus⟩ := rowO_slice hru
      obtain ⟨pp, pl, pc, hpus⟩ := rowO_slice hrp
      rw [hus] at hA hru
      rw [hpus] at hA hrp
      obtain ⟨q0, q1, q2, q3, ⟨q4, q5, q6, q7, q8, q9, q10, q11, q12, q13, q14, q15, q16⟩⟩ := hA
      have hg1 := law07_great (ops i).o.n (ops i).o.g hn1 _ wr hru.row
      have hokI : i < 60 → greatL (ops i).o.n (ops i).o.g = false → ¬ (ops i).d.size > 1000 → greatL (ops i).po.n (ops i).po.g = false → ¬ (ops i).p.data.size > 1000 → i + 1 ≤ 60 ∧ ∀ j, j < i + 1 → OpOk (ops j) := by
        intro e0 e1 e2 e3 e4
        refine ⟨e0, fun j hj => ?_⟩
        by_cases hji : j = i
        · subst hji; exact ⟨few_ok e1, (few_ok e3).1, by omega, by omega⟩
        · exact hsm.2 j (by omega)
      clear hsm h
      by_cases h60 : i ≥ 60
      · have h60' : (i : Int) ≥ 60 := by omega
        go_wp2
        go_ret
        exact ⟨great_yes, hb⟩
      have h60' : ¬ (i : Int) ≥ 60 := by omega
      replace hokI := hokI (by omega)
      cases hgr : greatL (ops i).o.n (ops i).o.g
      rotate_left
      · rw [hgr] at hg1
        clear hokI hgr
        go_wp2_with (first
          | (go_at_call 8; refine hg1.mono ?_; rintro e w1 ⟨rfl, hb1⟩))
        go_ret
        exact ⟨great_yes, hb.trans (hb1.mono hb.size)⟩
      rw [hgr] at hg1
      replace hokI := hokI hgr
      clear hgr
      by_cases hd : (ops i).d.size > 1000
      · have hd' : ((ops i).d.size : Int) > 1000 := by omega
        clear hokI
        go_wp2_with (first
          | (go_at_call 8; refine hg1.mono ?_; rintro e w1 ⟨rfl, hb1⟩; have z3 := old_cell hb1 q3))
        go_ret
        exact ⟨great_yes, hb.trans (hb1.mono hb.size)⟩
      have hd' : ¬ ((ops i).d.size : Int) > 1000 := by omega
      replace hokI := hokI hd
      have hg2 : ∀ w1, Below wr.heap.size wr w1 → Calls Tryz.prog 29 #[(ops i).p.v (.slice pp pl pc)] w1 fun e w' => e = .returned (.bool (greatL (ops i).po.n (ops i).po.g || decide ((ops i).p.data.size > 1000))) ∧ Below w1.heap.size w1 w' := fun w1 hb1 => law10_great (ops i).p (rowO_below hrp hb1) hn2
      cases hgp : (greatL (ops i).po.n (ops i).po.g || decide ((ops i).p.data.size > 1000))
      · rw [hgp] at hg2
        rw [Bool.or_eq_false_iff] at hgp
        have hok := hokI hgp.1 (of_decide_eq_false hgp.2)
        clear hokI hgp
        have hwi : wrap64 ((i : Int) + 1) = (i : Int) + 1 := by unfold wrap64; omega
        go_wp2_with (first
          | (go_at_call 8; refine hg1.mono ?_; rintro e w1 ⟨rfl, hb1⟩; have z3 := old_cell hb1 q3; have z4 := old_cell hb1 q4; have z5 := old_cell hb1 q5; have z6 := old_cell hb1 q6; have z7 := old_cell hb1 q7; have z8 := old_cell hb1 q8; have z9 := old_cell hb1 q9; have z10 := old_cell hb1 q10; have z11 := old_cell hb1 q11; have z12 := old_cell hb1 q12; have z13 := old_cell hb1 q13; have z14 := old_cell hb1 q14; have z15 := old_cell hb1 q15; have z16 := old_cell hb1 q16)
          | (go_at_call 29; refine (hg2 _ hb1).mono ?_; rintro e w2 ⟨rfl, hb2⟩))
        go_roundw
        case rel => exact ⟨i + 1, by first | rfl | (rw [hwi]; rfl), hin, hok, (hb.trans (hb1.mono hb.size)).trans (hb2.mono (Nat.le_trans hb.size hb1.size))⟩
        case measure => (try rw [hwi]); simp [idxV]; omega
      · rw [hgp] at hg2
        clear hokI hgp
        go_wp2_with (first
          | (go_at_call 8; refine hg1.mono ?_; rintro e w1 ⟨rfl, hb1⟩; have z3 := old_cell hb1 q3; have z4 := old_cell hb1 q4; have z5 := old_cell hb1 q5; have z6 := old_cell hb1 q6; have z7 := old_cell hb1 q7; have z8 := old_cell hb1 q8; have z9 := old_cell hb1 q9; have z10 := old_cell hb1 q10; have z11 := old_cell hb1 q11; have z12 := old_cell hb1 q12; have z13 := old_cell hb1 q13; have z14 := old_cell hb1 q14; have z15 := old_cell hb1 q15; have z16 := old_cell hb1 q16)
          | (go_at_call 29; refine (hg2 _ hb1).mono ?_; rintro e w2 ⟨rfl, hb2⟩))
        go_ret
        exact ⟨great_yes, (hb.trans (hb1.mono hb.size)).trans (hb2.mono (Nat.le_trans hb.size hb1.size))⟩
    · have : i = n := by omega
      subst this
      go_wp2
      go_ret
      exact ⟨great_not hsm, hb⟩
structure Inv24 (w wr : World) (k1 : Nat) (uo1 : Value) (c : Cs) (k2 : Nat) (uo2 : Value) (r : Cs) : Prop where
  both : Both wr [] k1 uo1 c k2 uo2 r
  gc : Good c
  gr : Good r
  lo1 : ∀ b ∈ bsOf k1 uo1, w.heap.size ≤ b
  lo2 : ∀ b ∈ bsOf k2 uo2, w.heap.size ≤ b
  bel : Below w.heap.size w wr
theorem Good.none {c : Cs} (h : Good c) : Good c.none := ⟨h.e.like rfl rfl rfl rfl rfl, h.f.asks, h.f.greets, fun q hq => by cases hq⟩
theorem Inv24.mv {w wr w' : World} {k1 k2 : Nat} {uo1 uo2 va1 va2 : Value} {c r c' r' : Cs} (h : Inv24 w wr k1 uo1 c k2 uo2 r) (hb : Both w' [] k1 va1 c' k2 va2 r') (hm : Mv wr k1 uo1 k2 uo2 w' va1 va2) (gc : Good c') (gr : Good r') : Inv24 w w' k1 va1 c' k2 va2 r' := by
  refine ⟨hb, gc, gr, fun b hb => ?_, fun b hb => ?_, ⟨hm.keeps.os.trans h.bel.os, hm.keeps.tape.trans h.bel.tape, hm.keeps.output.trans h.bel.output, Nat.le_trans h.bel.size hm.keeps.size, fun j hj => ?_⟩⟩
  · rcases bs_new hm.n1 hb with g | g
    · exact h.lo1 b g
    · exact Nat.le_trans h.bel.size g
  · rcases bs_new hm.n2 hb with g | g
    · exact h.lo2 b g
    · exact Nat.le_trans h.bel.size g
  · refine (hm.keeps.block j (Nat.lt_of_lt_of_le hj h.bel.size) fun g => ?_).trans (h.bel.block j hj)
    rcases List.mem_append.1 g with g | g
    · exact absurd hj (Nat.not_lt.2 (h.lo1 j g))
    · exact absurd hj (Nat.not_lt.2 (h.lo2 j g))
theorem Inv24.row {w wr : World} {k1 k2 : Nat} {uo1 uo2 u : Value} {c r : Cs} {o : OL} (h : Inv24 w wr k1 uo1 c k2 uo2 r) (hr : RowO w [] u o) : RowB wr [] k1 uo1 k2 uo2 u o :=
  rowO_old hr h.bel fun b hb => by
    rcases List.mem_append.1 hb with hb | hb
    · exact h.lo1 b hb
    · rcases List.mem_append.1 hb with hb | hb
      · exact h.lo2 b hb
      · cases hb
abbrev S17C (W : World) (a : Addr) (i : Nat) (o : Op24) (u pu : Value) : Prop :=
  W.cell? (a.add (i * 17)) = some (.int .i64 o.kd) ∧ W.cell? ⟨(a.add (i * 17)).block, (a.add (i * 17)).off + 1, none⟩ = some (.int .i64 o.n) ∧ W.cell? ⟨(a.add (i * 17)).block, (a.add (i * 17)).off + 2, none⟩ = some u ∧ W.cell? ⟨(a.add (i * 17)).block, (a.add (i * 17)).off + 3, none⟩ = some (.string o.d) ∧
  W.cell? ⟨(a.add (i * 17)).block, (a.add (i * 17)).off + 4, none⟩ = some (.int .i64 o.p.kind) ∧ W.cell? ⟨(a.add (i * 17)).block, (a.add (i * 17)).off + 5, none⟩ = some (.bool o.p.long) ∧ W.cell? ⟨(a.add (i * 17)).block, (a.add (i * 17)).off + 6, none⟩ = some (.int .i64 o.p.src) ∧ W.cell? ⟨(a.add (i * 17)).block, (a.add (i * 17)).off + 7, none⟩ = some (.int .i64 o.p.dst) ∧
  W.cell? ⟨(a.add (i * 17)).block, (a.add (i * 17)).off + 8, none⟩ = some (.int .i64 o.p.ccval) ∧ W.cell? ⟨(a.add (i * 17)).block, (a.add (i * 17)).off + 9, none⟩ = some (.int .i64 o.p.cover) ∧ W.cell? ⟨(a.add (i * 17)).block, (a.add (i * 17)).off + 10, none⟩ = some (.int .i64 o.p.seq) ∧ W.cell? ⟨(a.add (i * 17)).block, (a.add (i * 17)).off + 11, none⟩ = some (.int .i64 o.p.ack) ∧
  W.cell? ⟨(a.add (i * 17)).block, (a.add (i * 17)).off + 12, none⟩ = some (.int .i64 o.p.service) ∧ W.cell? ⟨(a.add (i * 17)).block, (a.add (i * 17)).off + 13, none⟩ = some (.int .i64 o.p.code) ∧ W.cell? ⟨(a.add (i * 17)).block, (a.add (i * 17)).off + 14, none⟩ = some (.int .i64 o.p.detail) ∧ W.cell? ⟨(a.add (i * 17)).block, (a.add (i * 17)).off + 15, none⟩ = some pu ∧
  W.cell? ⟨(a.add (i * 17)).block, (a.add (i * 17)).off + 16, none⟩ = some (.string o.p.data)
theorem op17 {W : World} {a : Addr} {i : Nat} {o : Op24} {u pu : Value} (h : OpAt W a i o u pu) : S17C W a i o u pu :=
  ⟨h.c0, h.c1, h.c2, h.c3, h.pk.c0, h.pk.c1, h.pk.c2, h.pk.c3, h.pk.c4, h.pk.c5, h.pk.c6, h.pk.c7, h.pk.c8, h.pk.c9, h.pk.c10, h.pk.c11, h.pk.c12⟩
theorem both_new {w w' : World} {k1 k2 : Nat} {uo1 uo2 : Value} {c r : Cs} (hC : CSat w [] k1 uo1 c) (hR : RSat w' (bsOf k1 uo1 ++ []) k2 uo2 r) (hb : Below w.heap.size w w') (hk : w.heap.size ≤ k2) (hu : ∀ b, blockOf uo2 = some b → w.heap.size ≤ b) : Both w' [] k1 uo1 c k2 uo2 r := by
  refine ⟨hC.frame (keeps_below hb []) (fun _ h => by cases h) fun x hx => ?_, hR⟩
  rw [List.append_nil] at hx
  refine ⟨.inr ?_, hR.low.1 x hx⟩
  rcases bsOf_mem.1 hx with rfl | hx
  · exact hk
  · exact hu x hx
theorem bs_low {b0 k : Nat} {uo : Value} (hk : b0 ≤ k) (hu : ∀ b, blockOf uo = some b → b0 ≤ b) : ∀ b ∈ bsOf k uo, b0 ≤ b := fun b hb => by
  rcases bsOf_mem.1 hb with rfl | hb
  · exact hk
  · exact hu b hb
attribute [local irreducible] canT
end Go.Proofs.YtopeaafcepgnhaaGreat
namespace Go.Proofs.YtopeaafcepgnhaaGreat
open Go.RowKit Sym Go.ChangeShapes Go.WideShapes Go.ChangeMaps
structure Sole (w wr : World) (k1 : Nat) (uo1 : Value) (c : Cs) : Prop where
  hC : CSat wr [] k1 uo1 c
  g : Good c
  lo1 : ∀ b ∈ bsOf k1 uo1, w.heap.size ≤ b
  bel : Below w.heap.size w wr
theorem Inv24.sole {w wr : World} {k1 k2 : Nat} {uo1 uo2 : Value} {c r : Cs} (h : Inv24 w wr k1 uo1 c k2 uo2 r) : Sole w wr k1 uo1 c :=
  ⟨h.both.hC.frame (.refl [] _) (fun _ h => by cases h) (fun _ h => by cases h), h.gc, h.lo1, h.bel⟩
theorem Sole.adopt {w wr w' : World} {k1 k2 : Nat} {uo1 : Value} {c : Cs} {a b d : Int} (h : Sole w wr k1 uo1 c) (hk : wr.heap.size ≤ k2) (hR : ∀ X : List Nat, (∀ x ∈ X, x < wr.heap.size) → RSat w' X k2 (.slice none 0 0) (Cs.adopt a b d)) (hb : Below wr.heap.size wr w') : Inv24 w w' k1 uo1 c k2 (.slice none 0 0) (Cs.adopt a b d) :=
  ⟨both_new h.hC (hR _ fun x hx => h.hC.low.1 x (by simpa using hx)) hb hk (fun b hb => by cases hb), h.g, ⟨adopt_e _ _ _, adopt_f _ _ _⟩, h.lo1, bs_low (Nat.le_trans h.bel.size hk) (fun b hb => by cases hb), h.bel.trans (hb.mono h.bel.size)⟩
theorem Sole.same {w wr w' : World} {k1 : Nat} {uo1 : Value} {c : Cs} (h : Sole w wr k1 uo1 c) (hb : Below wr.heap.size wr w') : Sole w w' k1 uo1 c :=
  ⟨h.hC.frame (keeps_below hb []) (fun _ h => by cases h) (fun _ h => by cases h), h.g, h.lo1, h.bel.trans (hb.mono h.bel.size)⟩
theorem Sole.post {w wr w' : World} {k1 : Nat} {uo1 : Value} {c c' : Cs} (h : Sole w wr k1 uo1 c) (hp : CPost wr [] k1 uo1 c' w') (g : Good c') : ∃ va, Sole w w' k1 va c' := by
  obtain ⟨va, hs, hk, hn⟩ := hp
  refine ⟨va, hs, g, fun b hb => ?_, ⟨hk.os.trans h.bel.os, hk.tape.trans h.bel.tape, hk.output.trans h.bel.output, Nat.le_trans h.bel.size hk.size, fun j hj => ?_⟩⟩
  · rcases bs_new hn hb with e | e
    · exact h.lo1 b e
    · exact Nat.le_trans h.bel.size e
  · exact (hk.block j (Nat.lt_of_lt_of_le hj h.bel.size) fun e => absurd hj (Nat.not_lt.2 (h.lo1 j e))).trans (h.bel.block j hj)
theorem state_eq {w wr : World} {k1 : Nat} {va : Value} {c : Cs} {z : Int} (h : Sole w wr k1 va c) (he : c.st = z) : Calls Tryz.prog 14 #[ptrV k1] wr fun e w' => e = .returned (.int .i64 z) ∧ wr = w' := he ▸ state_any h.hC
theorem ok5 : dialOk 5 OL.nil := ⟨by decide, by decide, chkO_nil⟩
structure SoleN (w wr : World) (k1 : Nat) (c : Cs) : Prop where
  s : Sole w wr k1 (.slice none 0 0) c
  n : NInv c
  o : c.outs = []
theorem ref02_add' (a b : Int) (w : World) : Calls Tryz.prog 19 #[.int .i64 a, .int .i64 b] w fun e w' => e = .returned (.int .i64 (Circ.add a b)) ∧ w = w' := ref02_add a b w
theorem ref02_of' (a : Int) (w : World) : Calls Tryz.prog 20 #[.int .i64 a] w fun e w' => e = .returned (.int .i64 (Circ.of a)) ∧ w = w' := ref02_of a w
theorem NInv.none {c : Cs} (h : NInv c) : NInv c.none := h.like rfl rfl rfl rfl rfl
theorem Sole.outs {w wr w' : World} {k1 : Nat} {va : Value} {c : Cs} (h : Sole w wr k1 va c) (hs : CSat w' [] k1 (.slice none 0 0) c.none) (hk : Keeps (bsOf k1 va) wr w') : Sole w w' k1 (.slice none 0 0) c.none := by
  refine ⟨hs, h.g.none, fun b hb => ?_, ⟨hk.os.trans h.bel.os, hk.tape.trans h.bel.tape, hk.output.trans h.bel.output, Nat.le_trans h.bel.size hk.size, fun j hj => (hk.block j (Nat.lt_of_lt_of_le hj h.bel.size) fun e => absurd hj (Nat.not_lt.2 (h.lo1 j e))).trans (h.bel.block j hj)⟩⟩
  rcases bsOf_mem.1 hb with e | e
  · exact h.lo1 b (bsOf_mem.2 (.inl e))
  · cases e
theorem add_next (g : Int) : Circ.add g 1 = Circ.add (Circ.of g) 1 := by unfold Circ.add Circ.of; omega
theorem tmod_short (n : Int) (h : 0 ≤ n) : n.tmod 16777216 = shortN n := Int.tmod_eq_emod_of_nonneg h
theorem chk_data {p : Pk} {n : Nat} {g : Nat → Op} (h : chkP p n g = 0) : p.data.size ≤ 200 := by
  unfold chkP at h
  split at h
  · split at h
    · split at h
      · split at h
        · cases h
        · omega
      · exact absurd h (by assumption)
    · cases h
  · exact absurd h (by assumption)
theorem check_eq {w : World} {p : Pk} {u : Value} {o : OL} {bad : List Nat} (hr : RowO w bad u o) (hf : o.few) (h : chkP p o.n o.g = 0) : Calls Tryz.prog 21 #[p.v u] w fun e w' => e = .returned (.int .i64 0) ∧ Below w.heap.size w w' := by
  have := ref10_Check p o.n (fR o) ⟨opP_fR hf, by have := chk_data h; omega⟩ u w hr.row
  rw [opF_fR, h] at this
  exact this
structure SoleP (w w' : World) (k1 : Nat) (va : Value) (c c' : Cs) : Prop where
  s : Sole w w' k1 va c'
  one : One c c'
  n : NInv c'
  cl : c.st = 0 → c'.st = 0 ∧ c'.outs = []
theorem stepP {w W : World} {k1 k2 : Nat} {uo2 u pu : Value} {c : Cs} (hN : NInv c) (hO : c.outs = []) (h : Inv24 w W k1 (.slice none 0 0) c k2 uo2 (Cs.adopt 0 0 0)) {o : Op24} (ho : OpOk o) (hu : RowO w [] u o.o) (hp : RowO w [] pu o.po) :
    Calls Tryz.prog 13 #[ptrV k1, ptrV k2, opV o u pu] W fun e w' => (∃ β : Bool, e = .returned (.bool β)) ∧ ∃ c' va, SoleP w w' k1 va c c' :=
  (step_any h.both h.gc h.gr ho (h.row hu) (h.row hp)).mono fun e w' ⟨⟨β, he, _⟩, vb1, vb2, hB4, hM4⟩ =>
    ⟨⟨β, he⟩, c.step o, vb1, (h.mv hB4 hM4 (h.gc.step ho.f) (h.gr.step ho.f)).sole, (step_one hN hO o).1, (step_one hN hO o).2, fun e0 => by
      have := step_closed e0 hO (h.gc.e.w03 (.inl e0)) o
      exact ⟨this.1, this.2.1⟩⟩
theorem one_len {c c' : Cs} (h : One c c') {m : Nat} (hm : c'.outs.length = m) : m ≤ 1 := by
  rcases h with ⟨h, -⟩ | ⟨q, h, -⟩
  · rw [h] at hm; subst hm; exact Nat.zero_le _
  · rw [h] at hm; subst hm; exact Nat.le_refl _
theorem one_next {c c' : Cs} (h : One c c') {m : Nat} (hm : c'.outs.length = m) {z : Int} (hz : z = if m = 0 then Circ.add c.gss 1 else Circ.add (Circ.add c.gss 1) 1) : z = Circ.add c'.none.gss 1 := by
  show z = Circ.add c'.gss 1
  rcases h with ⟨h, hg⟩ | ⟨q, h, hg, -⟩
  · rw [h] at hm; subst hm; rw [hz, hg]; rfl
  · rw [h] at hm; subst hm; rw [hz, hg]; rfl
theorem one_at {w : World} {bad : List Nat} {u : Value} {l : List QP} {q : QP} {qs : List (QP × Value)} (h : QSat w bad u l qs) (e : l = [q]) : ∃ uq, qs = [(q, uq)] ∧ RowO w bad uq q.o := by
  have h1 := h.fst
  have h2 := h.opts
  rw [e] at h1
  match qs, h1, h2 with
  | [], h1, _ => cases h1
  | [a], h1, h2 =>
    have : a.1 = q := by simpa using h1
    subst this
    exact ⟨a.2, rfl, h2 a (List.mem_singleton.2 rfl)⟩
  | a :: b :: t, h1, _ => cases h1
theorem check_late {w : World} {bad : List Nat} {p : Pk} {u : Value} {o : OL} {lg : Bool} {sq : Int} (hl : lg = p.long) (hs : sq = p.seq) (hr : RowO w bad u o) (hf : o.few) (h : chkP p o.n o.g = 0) :
    ∀ W, Below w.heap.size w W → Calls Tryz.prog 21 #[.agg #[.int .i64 p.kind, .bool lg, .int .i64 p.src, .int .i64 p.dst, .int .i64 p.ccval, .int .i64 p.cover, .int .i64 sq, .int .i64 p.ack, .int .i64 p.service, .int .i64 p.code, .int .i64 p.detail, u, .string p.data]] W fun e w' => e = .returned (.int .i64 0) ∧ Below W.heap.size W w' := by
  subst hl hs
  intro W hW
  exact check_eq (hr.kept (keeps_below hW []) (fun _ h => by cases h) (bad' := []) (fun _ h => by cases h)) hf h
set_option maxRecDepth 100000 in
set_option maxHeartbeats 16000000 in
theorem connNumbers_adopt {w : World} {f0 f1 f2 : Int} {p : Option Addr} {n cap : Nat} {ops : Nat → Op24} {us pus : Nat → Value} (hops : OpsAt w p n ops us pus) (hn : n ≤ maxLen) :
    Calls Tryz.prog 4 #[.bool false, .agg #[.int .i64 f0, .int .i64 f1, .int .i64 f2], .slice p n cap] w fun e w' => e = .returned (.bool true) ∧ Below w.heap.size w w' := by
  have hal : Below w.heap.size w (w.alloc (.cells #[.int .i64 f0, .int .i64 f1, .int .i64 f2] 22)) := (Below.refl _ _).alloc (Nat.le_refl _) _
  have hO0 := own_new w #[.int .i64 f0, .int .i64 f1, .int .i64 f2] 22
  go_enter Tryz.func4, Tryz.ntmps4
  go_wp2_with (first
    | (go_at_call 6; refine (works24_any _).mono ?_; rintro e w1 ⟨rfl, hb1⟩; have hbw1 := hal.trans (hb1.mono hal.size))
    | (go_at_call 7; refine (great_any (fun i hi => (hops i hi).below hbw1) hn).mono ?_; rintro e w2 ⟨⟨β, rfl, hG⟩, hb2⟩; have hbw2 := hbw1.trans (hb2.mono hbw1.size); have hO2 := own_below (own_below hO0 hb1) hb2; have y0 : w2.cell? ⟨w.heap.size, 0, none⟩ = some (.int .i64 f0) := hO2.2.1 0; have y1 : w2.cell? ⟨w.heap.size, 1, none⟩ = some (.int .i64 f1) := hO2.2.1 1; have y2 : w2.cell? ⟨w.heap.size, 2, none⟩ = some (.int .i64 f2) := hO2.2.1 2)
    | (go_at_call 9; refine (adopt_any f0 f1 f2 _).mono ?_; rintro e w3 ⟨k1, hk1, rfl, hC3, hb3⟩; have hS3 : Sole w w3 k1 (.slice none 0 0) (Cs.adopt f0 f1 f2) := ⟨hC3 [] (fun _ h => by cases h), ⟨adopt_e _ _ _, adopt_f _ _ _⟩, bs_low (Nat.le_trans hbw2.size hk1) (fun b hb => by cases hb), hbw2.trans (hb3.mono hbw2.size)⟩)
    | (go_at_call 18; refine (outs_any hS3.hC).mono ?_; rintro e w4 ⟨rfl, hC4, hk4, qs4, hq4⟩; have hS4 := hS3.outs hC4 hk4; have x4 : w4.cell? ⟨w.heap.size, 0, none⟩ = some (.int .i64 f0) := (own_keeps (own_below hO2 hb3) hk4 fun hx => (bsOf_mem.1 hx).elim (fun e => by have := hO2.1; omega) (fun e => by cases e)).2.1 0)
    | (go_at_call 19; refine (ref02_add' _ _ _).mono ?_; rintro e w5 ⟨rfl, rfl⟩))
  · go_ret
    exact ⟨rfl, hbw2⟩
  obtain ⟨hn60, hok⟩ := hG (by simp_all)
  have hSN : SoleN w w4 k1 (Cs.adopt f0 f1 f2).none := ⟨hS4, (adopt_n _ _ _).none, rfl⟩
  have hnx : Value.int .i64 (Circ.add f0 1) = .int .i64 (Circ.add (Cs.adopt f0 f1 f2).none.gss 1) := congrArg (Value.int .i64) (add_next f0)
  clear hG hal hO0 hO2 y0 y1 y2 hb1 hbw1
  go_quiet (fail)
  have hdn : Below w4.heap.size w4 (w4.drewN nq) := below_drewN (Below.refl _ _) nq
  have hSN : SoleN w (w4.drewN nq) k1 (Cs.adopt f0 f1 f2).none := ⟨hSN.s.same hdn, hSN.n, hSN.o⟩
  go_wp2
  go_loopw [9, 10] (fun u9 u10 wr => ∃ (i : Nat) (c : Cs), u10 = .int .i64 i ∧ i ≤ n ∧ u9 = .int .i64 (Circ.add c.gss 1) ∧ SoleN w wr k1 c)
    (fun _ u10 _ => n - idxV u10)
  case atStart => exact ⟨0, _, rfl, Nat.zero_le _, hnx, hSN⟩
  case round =>
    obtain ⟨i, c, rfl, hi, rfl, hN⟩ := hrel
    clear hSN hnx
    by_cases hin : i < n
    · obtain ⟨⟨a, rfl, hAt⟩, hru, hrp, -, -⟩ := hops i hin
      clear hops
      generalize us i = uu at *
      generalize pus i = pp at *
      obtain ⟨up, ul, uc, rfl⟩ := rowO_slice hru
      obtain ⟨qp, ql, qc, rfl⟩ := rowO_slice hrp
      have hoki := hok i hin
      have hS17 : ∀ W, Below w.heap.size w W → _ := fun W hW => op17 (hAt.of (old_cell hW))
      have hstep := fun kd W k2 uo2 (h : Inv24 w W k1 (.slice none 0 0) c k2 uo2 (Cs.adopt 0 0 0)) => stepP hN.n hN.o h (o := ⟨kd, (ops i).n, (ops i).o, (ops i).d, (ops i).p, (ops i).po⟩) ⟨hoki.f, hoki.pf, hoki.d, hoki.pd⟩ hru hrp
      have hwi : wrap64 ((i : Int) + 1) = (i : Int) + 1 := by unfold wrap64; omega
      clear hok hAt hru hrp
      go_wp2_with (first
        | (go_at_call 14; refine (state_any hN.s.hC).mono ?_; rintro e w0 ⟨rfl, rfl⟩))
      have hd' : Below wr.heap.size wr wr.drew := (Below.refl _ _).drew
      have hI' := hN.s.same hd'
      by_cases h7 : (7 : Int) < (ops i).kd
      all_goals
        go_region_held3 (fun W => S17C W a i (ops i) (.slice up ul uc) (.slice qp ql qc))
          (first | exact hS17 _ hI'.bel | exact hS17 _ hI3.bel | exact hS17 _ hI4.s.bel)
          (first
            | (go_at_call 10; refine (radopt_any 0 0 0 _).mono ?_; rintro e w3 ⟨k2, hk2, rfl, hR3, hb3⟩; have hI3 := hI'.adopt hk2 hR3 hb3)
            | (go_at_call 13; refine (hstep _ _ _ _ hI3).mono ?_; rintro e w4 ⟨⟨β, rfl⟩, c', vb1, hI4⟩))
        all_goals
          obtain ⟨hk4, hone, hn4, hcl⟩ := hI4
          clear hI' hI3 hoki hS17 hstep hd'
          obtain ⟨m, hm⟩ : ∃ m, c'.outs.length = m := ⟨_, rfl⟩
          have hm1 : m ≤ 1 := one_len hone hm
          by_cases h0 : c.st = 0
          all_goals first
          | (
            have h0b : (c.st == 0) = true := (by simpa using (h0 : c.st = 0))
            obtain ⟨hcs, hco⟩ := hcl h0
            have hmz : m = 0 := by rw [← hm, hco]; rfl
            have hmn : ¬ ((0 : Int) < (m : Int)) := by omega
            go_wp2_with (first
              | (go_at_call 18; refine (outs_any hk4.hC).mono ?_; rintro e w5 ⟨rfl, hC5, hk5, qs5, hq5⟩; have hS5 := hk4.outs hC5 hk5; obtain ⟨p5, c5, hva, m5, a5⟩ := vec_pk2 (by rw [← hq5.fst, List.length_map]) hq5.vec; rw [hm] at hva; subst hva)
              | (go_at_call 14; refine (state_eq hS5 hcs).mono ?_; rintro e w6 ⟨rfl, rfl⟩)))
          | (
            have h0b : (c.st == 0) = false := by simpa using h0
            go_wp2_with (first
              | (go_at_call 18; refine (outs_any hk4.hC).mono ?_; rintro e w5 ⟨rfl, hC5, hk5, qs5, hq5⟩; have hS5 := hk4.outs hC5 hk5; obtain ⟨p5, c5, hva, m5, a5⟩ := vec_pk2 (by rw [← hq5.fst, List.length_map]) hq5.vec; rw [hm] at hva; subst hva)))
          all_goals
            clear hcl h0 h0b
            go_loopw [9, 13, 14] (fun u9 u13 _ ww => ∃ (j : Nat) (z : Int), u13 = .int .i64 j ∧ j ≤ m ∧ u9 = .int .i64 z ∧ (z = if j = 0 then Circ.add c.gss 1 else Circ.add (Circ.add c.gss 1) 1) ∧ Below w5.heap.size w5 ww)
              (fun _ u13 _ _ => m - idxV u13)
            case atStart => exact ⟨0, _, rfl, Nat.zero_le _, rfl, rfl, Below.refl _ _⟩
            case round =>
              obtain ⟨j, z, rfl, hj, rfl, hz, hb⟩ := hrel
              by_cases hjm : j < m
              · first
                  | (exfalso; omega)
                  | skip
                all_goals
                  obtain rfl : j = 0 := by omega
                  obtain rfl : z = Circ.add c.gss 1 := by rw [hz, if_pos rfl]
                  clear hz
                  have hmj : (0 : Int) < (m : Int) := by omega
                  rcases hone with ⟨ho, -⟩ | ⟨q, ho, hg, hsq, hck⟩
                  · exfalso; rw [ho] at hm; subst hm; exact absurd hjm (Nat.not_lt_zero _)
                  obtain ⟨uq, rfl, hrq⟩ := one_at hq5 ho
                  obtain ⟨gq, rfl, A⟩ := a5 0 (q, uq) rfl
                  rw [Nat.zero_mul] at A
                  obtain ⟨lg, hlg⟩ : ∃ lg, lg = q.p.long := ⟨_, rfl⟩
                  obtain ⟨sq, hsq1⟩ : ∃ sq, sq = q.p.seq := ⟨_, rfl⟩
                  have hchk := check_late hlg hsq1 hrq (hk4.g.f.outs q (by rw [ho]; exact List.mem_singleton.2 rfl)) hck
                  obtain ⟨x0, x1, x2, x3, x4, x5, x6, x7, x8, x9, x10, x11, x12⟩ := A.of (old_cell hb)
                  rw [Nat.zero_add] at x1 x2 x3 x4 x5 x6 x7 x8 x9 x10 x11 x12
                  rw [← hlg] at x1
                  rw [← hsq1] at x6
                  rw [← hlg, ← hsq1] at hsq
                  clear A a5 hq5 hrq hlg hsq1
                  cases lg
                  · obtain rfl : sq = (Circ.add c.gss 1).tmod 16777216 := by rw [hsq, tmod_short _ (Circ.add_lo _ _)]; rfl
                    clear hsq
                    go_wp2_with (first
                      | (go_at_call 21; refine (hchk _ hb).mono ?_; rintro e w6 ⟨rfl, hb6⟩; have hbb := hb.trans (hb6.mono hb.size))
                      | (go_at_call 19; refine (ref02_add' _ _ _).mono ?_; rintro e w7 ⟨rfl, rfl⟩))
                    go_roundw
                    case rel => exact ⟨1, _, rfl, hjm, rfl, by simp, hbb⟩
                    case measure => simp [idxV]; omega
                  · obtain rfl : sq = Circ.add c.gss 1 := by rw [hsq]; rfl
                    clear hsq
                    go_wp2_with (first
                      | (go_at_call 21; refine (hchk _ hb).mono ?_; rintro e w6 ⟨rfl, hb6⟩; have hbb := hb.trans (hb6.mono hb.size))
                      | (go_at_call 19; refine (ref02_add' _ _ _).mono ?_; rintro e w7 ⟨rfl, rfl⟩))
                    go_roundw
                    case rel => exact ⟨1, _, rfl, hjm, rfl, by simp, hbb⟩
                    case measure => simp [idxV]; omega
              · have hje : j = m := by omega
                have hnext := one_next hone hm (hje ▸ hz)
                subst hnext
                clear a5
                go_wp2
                go_roundw
                case rel => exact ⟨i + 1, c'.none, rfl, hin, rfl, ⟨hS5.same hb, hn4.none, rfl⟩⟩
                case measure => simp [idxV]; omega
    · have : i = n := by omega
      subst this
      clear hops hok
      go_wp2_with (first
        | (go_at_call 15; refine (next_any hN.s.hC).mono ?_; rintro e w5 ⟨rfl, hp5⟩; obtain ⟨vd, hS5⟩ := hN.s.post hp5 hN.s.g))
      go_ret
      exact ⟨by simp, hS5.bel⟩
theorem dial_one (i s : Int) (l : OL) : ∃ q, (Cs.dial i s l).outs = [q] ∧ q.p.seq = Circ.of i := by
  refine ⟨_, rfl, ?_⟩
  show Circ.add (Circ.of (Circ.add i (-1))) 1 = Circ.of i
  unfold Circ.add Circ.of
  omega
theorem dial_next (i s : Int) (l : OL) : Circ.add i 1 = Circ.add (Cs.dial i s l).none.gss 1 := by
  show Circ.add i 1 = Circ.add (Circ.add (Circ.of (Circ.add i (-1))) 1) 1
  unfold Circ.add Circ.of
  omega
set_option maxRecDepth 100000 in
set_option maxHeartbeats 16000000 in
theorem connNumbers_dial {w : World} {f0 f1 f2 : Int} {p : Option Addr} {n cap : Nat} {ops : Nat → Op24} {us pus : Nat → Value} (hops : OpsAt w p n ops us pus) (hn : n ≤ maxLen) :
    Calls Tryz.prog 4 #[.bool true, .agg #[.int .i64 f0, .int .i64 f1, .int .i64 f2], .slice p n cap] w fun e w' => e = .returned (.bool true) ∧ Below w.heap.size w w' := by
  have hal : Below w.heap.size w (w.alloc (.cells #[.int .i64 f0, .int .i64 f1, .int .i64 f2] 22)) := (Below.refl _ _).alloc (Nat.le_refl _) _
  have hO0 := own_new w #[.int .i64 f0, .int .i64 f1, .int .i64 f2] 22
  go_enter Tryz.func4, Tryz.ntmps4
  go_wp2_with (first
    | (go_at_call 6; refine (works24_any _).mono ?_; rintro e w1 ⟨rfl, hb1⟩; have hbw1 := hal.trans (hb1.mono hal.size))
    | (go_at_call 7; refine (great_any (fun i hi => (hops i hi).below hbw1) hn).mono ?_; rintro e w2 ⟨⟨β, rfl, hG⟩, hb2⟩; have hbw2 := hbw1.trans (hb2.mono hbw1.size); have hO2 := own_below (own_below hO0 hb1) hb2; have y0 : w2.cell? ⟨w.heap.size, 0, none⟩ = some (.int .i64 f0) := hO2.2.1 0; have y1 : w2.cell? ⟨w.heap.size, 1, none⟩ = some (.int .i64 f1) := hO2.2.1 1; have y2 : w2.cell? ⟨w.heap.size, 2, none⟩ = some (.int .i64 f2) := hO2.2.1 2)
    | (go_at_call 9; refine (adopt_any f0 f1 f2 _).mono ?_; rintro e w3 ⟨k0, hk0, rfl, hC0, hb3⟩; have x0 := old_cell hb3 y0)
    | (go_at_call 11; refine (dial_any f0 5 (rowO_nil _ []) OL.nil_few).mono ?_; rintro e w4 ⟨hb4, ⟨-, k4, v4, hk4, hv4, rfl, hC4⟩ | ⟨hno, -⟩⟩; rotate_left; exact absurd ok5 hno)
    | (go_at_call 18; have hS4 : Sole w w4 k4 v4 (Cs.dial f0 5 OL.nil) := ⟨hC4 [] (fun _ h => by cases h), ⟨dial_e _ _ _, dial_f _ _ ⟨OL.nil_few, Nat.zero_le _⟩⟩, bs_low (Nat.le_trans (Nat.le_trans hbw2.size hb3.size) hk4) (fun b hb => Nat.le_trans (Nat.le_trans hbw2.size hb3.size) (hv4 b hb)), (hbw2.trans (hb3.mono hbw2.size)).trans (hb4.mono (Nat.le_trans hbw2.size hb3.size))⟩; refine (outs_any hS4.hC).mono ?_; rintro e w5 ⟨rfl, hC5, hk5, qs5, hq5⟩; have hS5 := hS4.outs hC5 hk5; have x5 : w5.cell? ⟨w.heap.size, 0, none⟩ = some (.int .i64 f0) := (own_keeps (own_below (own_below hO2 hb3) hb4) hk5 fun hx => (bsOf_mem.1 hx).elim (fun e => by have := hO2.1; have := hb3.size; omega) (fun e => by have := hv4 _ e; have := hO2.1; have := hb3.size; omega)).2.1 0; obtain ⟨q, hq, hsq⟩ := dial_one f0 5 OL.nil; obtain ⟨uq, rfl, -⟩ := one_at hq5 hq; obtain ⟨p5, c5, hva, m5, a5⟩ := vec_pk2 (by rw [hq]; rfl) hq5.vec; obtain ⟨gq, rfl, A⟩ := a5 0 (q, uq) rfl; have x6 := A.c6; rw [hsq, Nat.zero_mul, Nat.zero_add] at x6; rw [hq] at hva; subst hva; clear A a5 hq5)
    | (go_at_call 19; refine (ref02_add' _ _ _).mono ?_; rintro e w6 ⟨rfl, rfl⟩))
  · go_ret
    exact ⟨rfl, hbw2⟩
  obtain ⟨hn60, hok⟩ := hG (by simp_all)
  have hSN : SoleN w w5 k4 (Cs.dial f0 5 OL.nil).none := ⟨hS5, (dial_n f0 5 ⟨by decide, by decide⟩ chkO_nil).1.none, rfl⟩
  have hnx : Value.int .i64 (Circ.add f0 1) = .int .i64 (Circ.add (Cs.dial f0 5 OL.nil).none.gss 1) := congrArg (Value.int .i64) (dial_next f0 5 OL.nil)
  clear hG hal hO0 hO2 y0 y1 y2 hb1 hbw1
  go_quiet (first | (go_at_call 20; first | exact quiet_left (ref02_of' _ _) | exact quiet_add_left (ref02_of' _ _)))
  have hdn : Below w5.heap.size w5 (w5.drewN nq) := below_drewN (Below.refl _ _) nq
  have hSN : SoleN w (w5.drewN nq) k4 (Cs.dial f0 5 OL.nil).none := ⟨hSN.s.same hdn, hSN.n, hSN.o⟩
  clear x0 x5 x6
  clear hC0 hb3 hb4 hv4 hC4 hC5 hk5 hS4 hS5 hq hsq
  have hSN := hSN
  generalize hcc : (Cs.dial f0 5 OL.nil).none = c0 at hSN hnx ⊢
  clear hcc
  go_wp2
  go_loopw [9, 10] (fun u9 u10 wr => ∃ (i : Nat) (c : Cs), u10 = .int .i64 i ∧ i ≤ n ∧ u9 = .int .i64 (Circ.add c.gss 1) ∧ SoleN w wr k4 c)
    (fun _ u10 _ => n - idxV u10)
  case atStart => exact ⟨0, _, rfl, Nat.zero_le _, hnx, hSN⟩
  case round =>
    obtain ⟨i, c, rfl, hi, rfl, hN⟩ := hrel
    clear hSN hnx
    by_cases hin : i < n
    · obtain ⟨⟨a, rfl, hAt⟩, hru, hrp, -, -⟩ := hops i hin
      clear hops
      generalize us i = uu at *
      generalize pus i = pp at *
      obtain ⟨up, ul, uc, rfl⟩ := rowO_slice hru
      obtain ⟨qp, ql, qc, rfl⟩ := rowO_slice hrp
      have hoki := hok i hin
      have hS17 : ∀ W, Below w.heap.size w W → _ := fun W hW => op17 (hAt.of (old_cell hW))
      have hstep := fun kd W k2 uo2 (h : Inv24 w W k4 (.slice none 0 0) c k2 uo2 (Cs.adopt 0 0 0)) => stepP hN.n hN.o h (o := ⟨kd, (ops i).n, (ops i).o, (ops i).d, (ops i).p, (ops i).po⟩) ⟨hoki.f, hoki.pf, hoki.d, hoki.pd⟩ hru hrp
      have hwi : wrap64 ((i : Int) + 1) = (i : Int) + 1 := by unfold wrap64; omega
      clear hok hAt hru hrp
      go_wp2_with (first
        | (go_at_call 14; refine (state_any hN.s.hC).mono ?_; rintro e w0 ⟨rfl, rfl⟩))
      have hd' : Below wr.heap.size wr wr.drew := (Below.refl _ _).drew
      have hI' := hN.s.same hd'
      by_cases h7 : (7 : Int) < (ops i).kd
      all_goals
        go_region_held3 (fun W => S17C W a i (ops i) (.slice up ul uc) (.slice qp ql qc))
          (first | exact hS17 _ hI'.bel | exact hS17 _ hI3.bel | exact hS17 _ hI4.s.bel)
          (first
            | (go_at_call 10; refine (radopt_any 0 0 0 _).mono ?_; rintro e w3 ⟨k2, hk2, rfl, hR3, hb3⟩; have hI3 := hI'.adopt hk2 hR3 hb3)
            | (go_at_call 13; refine (hstep _ _ _ _ hI3).mono ?_; rintro e w4 ⟨⟨β, rfl⟩, c', vb1, hI4⟩))
        all_goals
          obtain ⟨hk4, hone, hn4, hcl⟩ := hI4
          clear hI' hI3 hoki hS17 hstep hd'
          obtain ⟨m, hm⟩ : ∃ m, c'.outs.length = m := ⟨_, rfl⟩
          have hm1 : m ≤ 1 := one_len hone hm
          by_cases h0 : c.st = 0
          all_goals first
          | (
            have h0b : (c.st == 0) = true := (by simpa using (h0 : c.st = 0))
            obtain ⟨hcs, hco⟩ := hcl h0
            have hmz : m = 0 := by rw [← hm, hco]; rfl
            have hmn : ¬ ((0 : Int) < (m : Int)) := by omega
            go_wp2_with (first
              | (go_at_call 18; refine (outs_any hk4.hC).mono ?_; rintro e w5 ⟨rfl, hC5, hk5, qs5, hq5⟩; have hS5 := hk4.outs hC5 hk5; obtain ⟨p5, c5, hva, m5, a5⟩ := vec_pk2 (by rw [← hq5.fst, List.length_map]) hq5.vec; rw [hm] at hva; subst hva)
              | (go_at_call 14; refine (state_eq hS5 hcs).mono ?_; rintro e w6 ⟨rfl, rfl⟩)))
          | (
            have h0b : (c.st == 0) = false := by simpa using h0
            go_wp2_with (first
              | (go_at_call 18; refine (outs_any hk4.hC).mono ?_; rintro e w5 ⟨rfl, hC5, hk5, qs5, hq5⟩; have hS5 := hk4.outs hC5 hk5; obtain ⟨p5, c5, hva, m5, a5⟩ := vec_pk2 (by rw [← hq5.fst, List.length_map]) hq5.vec; rw [hm] at hva; subst hva)))
          all_goals
            clear hcl h0 h0b
            go_loopw [9, 13, 14] (fun u9 u13 _ ww => ∃ (j : Nat) (z : Int), u13 = .int .i64 j ∧ j ≤ m ∧ u9 = .int .i64 z ∧ (z = if j = 0 then Circ.add c.gss 1 else Circ.add (Circ.add c.gss 1) 1) ∧ Below w5.heap.size w5 ww)
              (fun _ u13 _ _ => m - idxV u13)
            case atStart => exact ⟨0, _, rfl, Nat.zero_le _, rfl, rfl, Below.refl _ _⟩
            case round =>
              obtain ⟨j, z, rfl, hj, rfl, hz, hb⟩ := hrel
              by_cases hjm : j < m
              · first
                  | (exfalso; omega)
                  | skip
                all_goals
                  obtain rfl : j = 0 := by omega
                  obtain rfl : z = Circ.add c.gss 1 := by rw [hz, if_pos rfl]
                  clear hz
                  have hmj : (0 : Int) < (m : Int) := by omega
                  rcases hone with ⟨ho, -⟩ | ⟨q, ho, hg, hsq, hck⟩
                  · exfalso; rw [ho] at hm; subst hm; exact absurd hjm (Nat.not_lt_zero _)
                  obtain ⟨uq, rfl, hrq⟩ := one_at hq5 ho
                  obtain ⟨gq, rfl, A⟩ := a5 0 (q, uq) rfl
                  rw [Nat.zero_mul] at A
                  obtain ⟨lg, hlg⟩ : ∃ lg, lg = q.p.long := ⟨_, rfl⟩
                  obtain ⟨sq, hsq1⟩ : ∃ sq, sq = q.p.seq := ⟨_, rfl⟩
                  have hchk := check_late hlg hsq1 hrq (hk4.g.f.outs q (by rw [ho]; exact List.mem_singleton.2 rfl)) hck
                  obtain ⟨x0, x1, x2, x3, x4, x5, x6, x7, x8, x9, x10, x11, x12⟩ := A.of (old_cell hb)
                  rw [Nat.zero_add] at x1 x2 x3 x4 x5 x6 x7 x8 x9 x10 x11 x12
                  rw [← hlg] at x1
                  rw [← hsq1] at x6
                  rw [← hlg, ← hsq1] at hsq
                  clear A a5 hq5 hrq hlg hsq1
                  cases lg
                  · obtain rfl : sq = (Circ.add c.gss 1).tmod 16777216 := by rw [hsq, tmod_short _ (Circ.add_lo _ _)]; rfl
                    clear hsq
                    go_wp2_with (first
                      | (go_at_call 21; refine (hchk _ hb).mono ?_; rintro e w6 ⟨rfl, hb6⟩; have hbb := hb.trans (hb6.mono hb.size))
                      | (go_at_call 19; refine (ref02_add' _ _ _).mono ?_; rintro e w7 ⟨rfl, rfl⟩))
                    go_roundw
                    case rel => exact ⟨1, _, rfl, hjm, rfl, by simp, hbb⟩
                    case measure => simp [idxV]; omega
                  · obtain rfl : sq = Circ.add c.gss 1 := by rw [hsq]; rfl
                    clear hsq
                    go_wp2_with (first
                      | (go_at_call 21; refine (hchk _ hb).mono ?_; rintro e w6 ⟨rfl, hb6⟩; have hbb := hb.trans (hb6.mono hb.size))
                      | (go_at_call 19; refine (ref02_add' _ _ _).mono ?_; rintro e w7 ⟨rfl, rfl⟩))
                    go_roundw
                    case rel => exact ⟨1, _, rfl, hjm, rfl, by simp, hbb⟩
                    case measure => simp [idxV]; omega
              · have hje : j = m := by omega
                have hnext := one_next hone hm (hje ▸ hz)
                subst hnext
                clear a5
                go_wp2
                go_roundw
                case rel => exact ⟨i + 1, c'.none, rfl, hin, rfl, ⟨hS5.same hb, hn4.none, rfl⟩⟩
                case measure => simp [idxV]; omega
    · have : i = n := by omega
      subst this
      clear hops hok
      go_wp2_with (first
        | (go_at_call 15; refine (next_any hN.s.hC).mono ?_; rintro e w5 ⟨rfl, hp5⟩; obtain ⟨vd, hS5⟩ := hN.s.post hp5 hN.s.g))
      go_ret
      exact ⟨by simp, hS5.bel⟩
theorem okWide_arr {P : Program} {w : World} {r : Reach} {base : Nat} {t : TypeId} {v : Value} {n : Nat} {e : TypeId} (ht : P.underlying t = some (.array n e)) (h : Value.okWide P w r base t v) : ∃ cs, v = .agg cs ∧ cs.size = P.cellsOf t := by
  simp only [Value.okWide, ht] at h
  obtain ⟨cs, h1, h2, _⟩ := h
  exact ⟨cs, h1, h2⟩
set_option maxRecDepth 100000 in
theorem open_three {H : Type} {enc : TypeId × Value → H} {W : World} {base b0 : Nat} {r : Reach} {v : Value} {d : DataW H} {p : List MemPlace} {sp : Nat → Bool} (hv : Value.okWide Tryz.prog W r b0 22 v) (h : DataW.Trod enc Tryz.prog W base sp true 22 v d p) :
    ∃ a b c : Int, v = .agg #[.int .i64 a, .int .i64 b, .int .i64 c] := by
  obtain ⟨cs, rfl, hsz⟩ := okWide_arr Tryz.underlying22 hv
  rw [show Tryz.prog.cellsOf 22 = 3 from by kernel_rfl] at hsz
  obtain ⟨l⟩ := cs
  obtain ⟨fuel, hf⟩ := h
  have hl : l.length = 3 := by simpa using hsz
  match l, hl with
  | [x, y, z], _ =>
    have hf : DataW.trod enc Tryz.prog W base sp true fuel 22 [x, y, z] = some (d, p) := hf
    obtain ⟨xs, m, -, -, -, hlen, hg⟩ := DataW.trod_array Tryz.underlying22 hf
    have ci : Tryz.prog.cellsOf 3 = 1 := by kernel_rfl
    have one : ∀ i, i < 3 → ∀ c, (([x, y, z] : List Value).drop i).take 1 = [c] → ∃ k, c = .int .i64 k := by
      intro i hi c hc
      obtain ⟨u, hu⟩ : ∃ u, xs[i]? = some u := ⟨_, List.getElem?_eq_getElem (by rw [hlen]; exact hi)⟩
      rw [← hg i hi, ci, Nat.mul_one, hc] at hu
      obtain ⟨k, e, -, -⟩ := DataW.trod_int Tryz.underlying3 hu
      simp at e
      exact ⟨k, e⟩
    obtain ⟨a, rfl⟩ := one 0 (by decide) x rfl
    obtain ⟨b, rfl⟩ := one 1 (by decide) y rfl
    obtain ⟨c, rfl⟩ := one 2 (by decide) z rfl
    exact ⟨a, b, c, rfl⟩
set_option maxRecDepth 100000 in
theorem trod_op {H : Type} {enc : TypeId × Value → H} {W : World} {base fuel : Nat} {sp : Nat → Bool} {cs : List Value} {y0 : DataW H × List MemPlace} (hl : cs.length = 17) (hf : DataW.trod enc Tryz.prog W base sp true fuel 38 cs = some y0) :
    ∃ (o : Op24) (u pu : Value), cs = (opC o u pu).toList ∧ RowO W [] u o.o ∧ RowO W [] pu o.po ∧ o.o.n ≤ maxLen ∧ o.po.n ≤ maxLen := by
  match cs, hl with
  | [kd_c, n_c, opts_c, data_c, p0, p1, p2, p3, p4, p5, p6, p7, p8, p9, p10, p11, p12], _ =>
  obtain ⟨xs, m, _, _, _, hlen, hg⟩ := DataW.trod_struct Tryz.underlying38 hf
  have ci : Tryz.prog.cellsOf 3 = 1 := by kernel_rfl
  have cs1 : Tryz.prog.cellsOf 23 = 1 := by kernel_rfl
  have cst : Tryz.prog.cellsOf 9 = 1 := by kernel_rfl
  have cpk : Tryz.prog.cellsOf 36 = 13 := by kernel_rfl
  obtain ⟨y, hy⟩ : ∃ y, xs[0]? = some y := ⟨_, List.getElem?_eq_getElem (by rw [hlen]; decide)⟩
  rw [← hg 0 _ rfl] at hy
  simp [List.range_succ, ci] at hy
  obtain ⟨kd, e, _, _⟩ := DataW.trod_int Tryz.underlying3 hy
  simp at e
  subst e
  clear hy
  obtain ⟨y, hy⟩ : ∃ y, xs[1]? = some y := ⟨_, List.getElem?_eq_getElem (by rw [hlen]; decide)⟩
  rw [← hg 1 _ rfl] at hy
  simp [List.range_succ, ci] at hy
  obtain ⟨n, e, _, _⟩ := DataW.trod_int Tryz.underlying3 hy
  simp at e
  subst e
  clear hy
  obtain ⟨y, hy⟩ : ∃ y, xs[2]? = some y := ⟨_, List.getElem?_eq_getElem (by rw [hlen]; decide)⟩
  rw [← hg 2 _ rfl] at hy
  simp [List.range_succ, ci, cs1] at hy
  obtain ⟨hs, ht⟩ := slice_cell Tryz.underlying23 hy
  obtain ⟨m1, g1, a1, a2, a3⟩ := open_opts_of hs ht
  clear hy hs ht
  obtain ⟨y, hy⟩ : ∃ y, xs[3]? = some y := ⟨_, List.getElem?_eq_getElem (by rw [hlen]; decide)⟩
  rw [← hg 3 _ rfl] at hy
  simp [List.range_succ, ci, cs1, cst] at hy
  obtain ⟨d, e, _, _⟩ := DataW.trod_string Tryz.underlying9 hy
  simp at e
  subst e
  clear hy
  obtain ⟨y, hy⟩ : ∃ y, xs[4]? = some y := ⟨_, List.getElem?_eq_getElem (by rw [hlen]; decide)⟩
  rw [← hg 4 _ rfl] at hy
  simp [List.range_succ, ci, cs1, cst, cpk] at hy
  obtain ⟨q, po, m2, g2, e, b1, b2, -, b3⟩ := trod_pk rfl hy
  simp only [Pk.l, List.cons.injEq, and_true] at e
  obtain ⟨rfl, rfl, rfl, rfl, rfl, rfl, rfl, rfl, rfl, rfl, rfl, rfl, rfl⟩ := e
  exact ⟨⟨kd, n, ⟨m1, g1⟩, d, q, ⟨m2, g2⟩⟩, _, _, rfl, ⟨a3, fun _ _ _ h => by cases h⟩, ⟨b3, fun _ _ _ h => by cases h⟩, a1, b1⟩
theorem addr_add_off (a : Addr) (k : Nat) : (a.add k).off = a.off + k := by unfold Addr.add; split <;> simp_all
theorem addr_add_none {a : Addr} (h : a.spot = none) (k : Nat) : a.add k = ⟨a.block, a.off + k + 0, none⟩ := by
  obtain ⟨bb, oo, ss⟩ := a
  simp only at h
  subst h
  unfold Addr.add
  by_cases h0 : k = 0 <;> simp [h0]
set_option maxRecDepth 100000 in
theorem open_ops {H : Type} {enc : TypeId × Value → H} {W : World} {base b0 : Nat} {r : Reach} {v : Value} {d : DataW H} {p : List MemPlace} (hv : Value.okWide Tryz.prog W r b0 24 v) (h : DataW.Trod enc Tryz.prog W base (fun _ => true) true 24 v d p) :
    ∃ (q : Option Addr) (n cap : Nat) (ops : Nat → Op24) (us pus : Nat → Value), v = .slice q n cap ∧ OpsAt W q n ops us pus ∧ n ≤ maxLen := by
  obtain ⟨len, f, h1, h2, h3⟩ := open_rows 17 (by kernel_rfl) (by omega) Tryz.underlying24 hv h
  have hex : ∀ i, ∃ z : Op24 × Value × Value, i < len → (List.range 17).map (f i) = (opC z.1 z.2.1 z.2.2).toList ∧ RowO W [] z.2.1 z.1.o ∧ RowO W [] z.2.2 z.1.po ∧ z.1.o.n ≤ maxLen ∧ z.1.po.n ≤ maxLen := by
    intro i
    by_cases hi : i < len
    · obtain ⟨fuel, x, hx⟩ := h3 i hi
      obtain ⟨o, u, pu, e, h⟩ := trod_op (by simp) hx
      exact ⟨(o, u, pu), fun _ => ⟨e, h⟩⟩
    · exact ⟨(⟨0, 0, OL.nil, ⟨#[]⟩, ⟨0, false, 0, 0, 0, 0, 0, 0, 0, 0, 0, ⟨#[]⟩⟩, OL.nil⟩, undef, undef), fun h => absurd h hi⟩
  refine ⟨?_, ?_, ?_, fun i => (Classical.choose (hex i)).1, fun i => (Classical.choose (hex i)).2.1, fun i => (Classical.choose (hex i)).2.2, ?_⟩
  · exact match v with | .slice q _ _ => q | _ => none
  · exact len
  · exact match v with | .slice _ _ c => c | _ => 0
  rcases h1 with ⟨rfl, rfl⟩ | ⟨a, cap, rfl, hl, hm, hc⟩
  · exact ⟨rfl, fun i hi => absurd hi (Nat.not_lt_zero _), h2⟩
  · refine ⟨rfl, fun i hi => ?_, h2⟩
    obtain ⟨e, hu, hpu, n1, n2⟩ := Classical.choose_spec (hex i) hi
    obtain ⟨hsp, hlt, hj⟩ := hc i hi
    have hbk : (a.add (i * 17)).block = a.block := addr_add_block a _
    have hof : (a.add (i * 17)).off = a.off + i * 17 := addr_add_off a _
    have ha : a.add (i * 17) = ⟨a.block, a.off + i * 17 + 0, none⟩ := addr_add_none hsp _
    have hcell : ∀ j, j < 17 → ∀ v, (opC (Classical.choose (hex i)).1 (Classical.choose (hex i)).2.1 (Classical.choose (hex i)).2.2).toList[j]? = some v → W.cell? ⟨(a.add (i * 17)).block, (a.add (i * 17)).off + j, none⟩ = some v := by
      intro j hjl v hv
      rw [hbk, hof, hj j hjl]
      rw [← e, List.getElem?_map, List.getElem?_range hjl] at hv
      exact hv
    have h0 : W.cell? (a.add (i * 17)) = some (.int .i64 (Classical.choose (hex i)).1.kd) := by
      have := hcell 0 (by decide) (.int .i64 (Classical.choose (hex i)).1.kd) rfl
      rw [hbk, hof] at this
      rw [ha]
      exact this
    refine ⟨⟨a, rfl, ⟨h0, hcell 1 (by decide) _ rfl, hcell 2 (by decide) _ rfl, hcell 3 (by decide) _ rfl, pkAt_of fun j hj => ?_⟩⟩, hu, hpu, n1, n2⟩
    have := hcell (4 + j) (by omega)
    rw [Nat.add_assoc]
    rcases (by omega : j = 0 ∨ j = 1 ∨ j = 2 ∨ j = 3 ∨ j = 4 ∨ j = 5 ∨ j = 6 ∨ j = 7 ∨ j = 8 ∨ j = 9 ∨ j = 10 ∨ j = 11 ∨ j = 12) with rfl | rfl | rfl | rfl | rfl | rfl | rfl | rfl | rfl | rfl | rfl | rfl | rfl
    all_goals exact this _ rfl
set_option maxRecDepth 100000 in
theorem connNumbers_walk {H : Type} {enc : TypeId × Value → H} {base : Nat} {v0 v1 v2 : Value} {d0 d1 d2 : DataW H} {p0 p1 p2 : List MemPlace} {W : World}
    (hv0 : Value.okWide Tryz.prog W .any base 4 v0) (h0 : DataW.Trod enc Tryz.prog W 0 (fun _ => true) true 4 v0 d0 p0)
    (hv1 : Value.okWide Tryz.prog W .any base 22 v1) (h1 : DataW.Trod enc Tryz.prog W 0 (fun _ => true) true 22 v1 d1 p1)
    (hv2 : Value.okWide Tryz.prog W .any base 24 v2) (h2 : DataW.Trod enc Tryz.prog W 0 (fun _ => true) true 24 v2 d2 p2) :
    Calls Tryz.prog 4 #[v0, v1, v2] W fun e W' => e = .returned (.bool true) ∧ Below W.heap.size W W' := by
  obtain ⟨b, rfl⟩ := okWide_bool Tryz.underlying4 hv0
  obtain ⟨f0, f1, f2, rfl⟩ := open_three hv1 h1
  obtain ⟨q, n, cap, ops, us, pus, rfl, hops, hn⟩ := open_ops hv2 h2
  cases b
  · exact connNumbers_adopt hops hn
  · exact connNumbers_dial hops hn
end Go.Proofs.YtopeaafcepgnhaaGreat
namespace Go.Proofs.YtopeaafcepgnhaaGreat.Facts
open Go
def codes : List Nat := [104, 97, 114, 110, 101, 115, 115, 32, 50, 102, 99, 102, 100, 50, 55, 100, 49, 100, 51, 48, 51, 49, 51, 57, 53, 55, 100, 97, 101, 52, 56, 52, 48, 102, 56, 100, 98, 53, 50, 99, 50, 54, 53, 55, 52, 97, 53, 56, 55, 56, 99, 50, 101, 101, 51, 54, 50, 100, 48, 56, 49, 53, 97, 101, 54, 52, 98, 51, 50, 97, 55, 54, 32, 99, 117, 116, 32, 97, 116, 32, 97, 110, 97, 98, 114, 97, 110, 99, 104, 47, 97, 110, 97, 98, 114, 97, 110, 99, 104, 108, 97, 119, 50, 52, 46, 67, 111, 110, 110, 68, 111, 101, 115, 32, 97, 110, 97, 98, 114, 97, 110, 99, 104, 47, 97, 110, 97, 98, 114, 97, 110, 99, 104, 108, 97, 119, 50, 52, 46, 67, 111, 110, 110, 78, 117, 109, 98, 101, 114, 115, 32, 97, 110, 97, 98, 114, 97, 110, 99, 104, 47, 97, 110, 97, 98, 114, 97, 110, 99, 104, 108, 97, 119, 50, 52, 46, 67, 111, 110, 110, 69, 110, 100, 115]
set_option maxRecDepth 100000 in
theorem initOf : Tryz.prog.initOrder = String.ofList (codes.map Char.ofNat) := by kernel_rfl
theorem initList : Tryz.prog.initOrder.toList = codes.map Char.ofNat := by rw [initOf, String.toList_ofList]
theorem lays : Tryz.prog.laysLater = false := by kernel_rfl
theorem reflects : Tryz.prog.bearsReflect = false := by kernel_rfl
def chunks : List (List Char) := [[99, 117, 116], [97, 116], [97, 110, 97, 98, 114, 97, 110, 99, 104, 47, 97, 110, 97, 98, 114, 97, 110, 99, 104, 108, 97, 119, 50, 52, 46, 67, 111, 110, 110, 68, 111, 101, 115], [97, 110, 97, 98, 114, 97, 110, 99, 104, 47, 97, 110, 97, 98, 114, 97, 110, 99, 104, 108, 97, 119, 50, 52, 46, 67, 111, 110, 110, 78, 117, 109, 98, 101, 114, 115], [97, 110, 97, 98, 114, 97, 110, 99, 104, 47, 97, 110, 97, 98, 114, 97, 110, 99, 104, 108, 97, 119, 50, 52, 46, 67, 111, 110, 110, 69, 110, 100, 115]].map (List.map Char.ofNat)
theorem ws : behindMainWord (wordsSigns Tryz.prog.initOrder.toList) = chunks := by rw [initList]; kernel_rfl
theorem wsC : behindMainWord (wordsSigns Tryz.prog.initOrder.toList) = ['c', 'u', 't'] :: chunks.tail := by rw [ws]; kernel_rfl
theorem cutL : "cut".toList = ['c', 'u', 't'] := by
  rw [show "cut" = String.ofList ['c', 'u', 't'] from rfl, String.toList_ofList]
theorem lit_ne {s : String} (h : s ≠ "cut") : ¬ (['c', 'u', 't'] = s.toList) := by
  intro e
  exact h (String.toList_inj.mp (e.symm.trans cutL.symm))
theorem strip_none : ∀ (os : List String) (ws : List (List Char)), (∀ o ∈ os, o ≠ "cut") → stripLifts os (['c', 'u', 't'] :: ws) = ([], ['c', 'u', 't'] :: ws)
  | [], _, _ => rfl
  | o :: os, ws, h => by
    rw [stripLifts, if_neg, strip_none os ws (fun o ho => h o (List.mem_cons_of_mem _ ho))]
    rw [beq_iff_eq]
    exact lit_ne (h o (List.mem_cons_self ..))
theorem strip_cut (ws : List (List Char)) : stripLifts liftWords (['c', 'u', 't'] :: ws) = ([], ['c', 'u', 't'] :: ws) :=
  strip_none _ _ (by unfold liftWords; decide)
theorem beq_no {s : String} (h : s ≠ "cut") : (['c', 'u', 't'] == s.toList) = false := by
  cases e : (['c', 'u', 't'] == s.toList) with
  | false => rfl
  | true => exact absurd (beq_iff_eq.mp e) (lit_ne h)
theorem make_of (P : Program) (ws : List (List Char)) (h : behindMainWord (wordsSigns P.initOrder.toList) = ['c', 'u', 't'] :: ws) : P.make = some .cut := by
  unfold Program.make
  rw [h]
  simp only [beq_no (show "gc" ≠ "cut" by decide), beq_no (show "spec" ≠ "cut" by decide), cutL]
  simp
theorem lifts_of (P : Program) (ws : List (List Char)) (h : behindMainWord (wordsSigns P.initOrder.toList) = ['c', 'u', 't'] :: ws) : P.headLifts = [] := by
  unfold Program.headLifts
  simp only [h, strip_cut, cutL, List.head?_cons, beq_self_eq_true, if_true]
theorem final_of (P : Program) (ws : List (List Char)) (h : behindMainWord (wordsSigns P.initOrder.toList) = ['c', 'u', 't'] :: ws) : P.liftsFinal = false := by
  unfold Program.liftsFinal
  rw [lifts_of P ws h]
  simp [h]
theorem enter_of (P : Program) (ws : List (List Char)) (h : behindMainWord (wordsSigns P.initOrder.toList) = ['c', 'u', 't'] :: ws)
    (lays : P.laysLater = false) (rfls : P.bearsReflect = false) (door : P.doorFits [] = true) : P.mayEnter = true := by
  unfold Program.mayEnter
  rw [h]
  simp only [strip_cut, cutL, lays, rfls, door]
  simp
theorem door : Tryz.prog.doorFits [] = true := by kernel_rfl
theorem enter : Tryz.prog.mayEnter = true := enter_of _ _ wsC lays reflects door
theorem lifts : Tryz.prog.liftsFinal = false := final_of _ _ wsC
theorem make : Tryz.prog.make = some .cut := make_of _ _ wsC
theorem laid : laidOutB Tryz.prog = true := by kernel_rfl
theorem rowed : mapsRowed Tryz.prog = true := by kernel_rfl
theorem heard : Tryz.prog.stopsHeard = true := by kernel_rfl
theorem stops : Tryz.prog.stops = [] := by kernel_rfl
theorem knobs : Tryz.prog.stopKnobs = [] := by kernel_rfl
end Go.Proofs.YtopeaafcepgnhaaGreat.Facts
