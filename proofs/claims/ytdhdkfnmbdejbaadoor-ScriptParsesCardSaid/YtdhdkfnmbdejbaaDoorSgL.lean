/- The reference reads all words of an act. No conditions. -/
import Derived.Test.YtdhdkfnmbdejbaaDoorSgK
namespace Go.Proofs.YtdhdkfnmbdejbaaDoor
set_option linter.unusedVariables false
set_option linter.unusedSimpArgs false
open Go.RowKit

def upC (c : UInt8) : UInt8 := if c = 115 then 83 else if c = 120 then 88 else if c = 121 then 89 else if c = 122 then 90 else 68
def upL (fs : List UInt8) : List UInt8 := fs.map upC
/-- the words of a form: known ones, and a side ahead of all -/
def FormOk (fs : List UInt8) : Prop := ∀ (i : Nat) (h : i < fs.length), (fs[i] = 115 ∧ i = 0) ∨ fs[i] = 120 ∨ fs[i] = 121 ∨ fs[i] = 122 ∨ fs[i] = 100
theorem cut_up (fs : List UInt8) (i : Nat) (h : i < fs.length) : (tx (upL fs)).extract i (i + 1) = tx [upC fs[i]] := by
  have hl : i < (upL fs).length := by unfold upL; rw [List.length_map]; exact h
  have := cut_tx (tx (upL fs)) i (by rw [tx_size]; exact hl)
  rw [tx_get (upL fs) i hl] at this
  rw [this]
  have e : (upL fs)[i] = upC fs[i] := by simp [upL]
  rw [e]
theorem side_keep {a : ActP} (h : a.s = 0) : ({ a with s := 0 } : ActP) = a := by
  cases a
  simp at h
  subst h
  rfl
theorem eq_tx (a b : List UInt8) : ((tx a).toList == b) = decide (a = b) := by
  rw [seq_dec]
  by_cases h : a = b
  · rw [h]; simp
  · rw [decide_eq_false h, decide_eq_false (fun e => h (tx_inj e))]
set_option maxRecDepth 100000 in
set_option maxHeartbeats 8000000 in
theorem ract_any {W : World} {kind : Int} {fs : List UInt8} {v : Value} {ls : List ByteArray} (hT : TxtAt W v ls) (hF : FormOk fs) (hfs : fs.length ≤ 100) (hls : ∀ l ∈ ls, l.size ≤ 1000000) :
    Calls Tryd.prog 25 #[.int .i64 kind, .string (tx (upL fs)), v] W fun e w' => ActR (fillP kind fs ls) e ∧ Below W.heap.size W w' := by
  obtain ⟨p, cap, rfl, hcap, hmax, hcell⟩ := hT
  obtain ⟨R, hR⟩ : ∃ R, fillP kind fs ls = R := ⟨_, rfl⟩
  rw [hR]
  have htx : ((tx (upL fs)).size : Int) = (fs.length : Int) := by rw [tx_size]; unfold upL; rw [List.length_map]
  have htn : (tx (upL fs)).size = fs.length := by rw [tx_size]; unfold upL; rw [List.length_map]
  have hcut := cut_up fs
  generalize tx (upL fs) = F at *
  by_cases h1 : ls.length < fs.length
  · have hRv : R = (ActP.zero, 1) := by rw [← hR]; unfold fillP; rw [if_pos h1]
    have i1 : (ls.length : Int) < (fs.length : Int) := by omega
    clear htn
    go_enter Tryd.func25, Tryd.ntmps25
    go_wp2
    ((try simp only [Exit.inBlock, Exit.then]); refine bodyPost_ret (by simp [results, Tryd.results25, go_sem, ActP.zero]; try rfl) rfl ?_)
    try rw [hRv]
    exact ⟨rfl, below_alloc (Below.refl _ _) _⟩
  · by_cases h2 : fs.length < ls.length
    · have hRv : R = (ActP.zero, 2) := by rw [← hR]; unfold fillP; rw [if_neg h1, if_pos h2]
      have i1 : ¬ (ls.length : Int) < (fs.length : Int) := by omega
      have i2 : (fs.length : Int) < (ls.length : Int) := by omega
      clear htn
      go_enter Tryd.func25, Tryd.ntmps25
      go_wp2
      ((try simp only [Exit.inBlock, Exit.then]); refine bodyPost_ret (by simp [results, Tryd.results25, go_sem, ActP.zero]; try rfl) rfl ?_)
      try rw [hRv]
      exact ⟨rfl, below_alloc (Below.refl _ _) _⟩
    · have i1 : ¬ (ls.length : Int) < (fs.length : Int) := by omega
      have i2 : ¬ (fs.length : Int) < (ls.length : Int) := by omega
      have heq : ls.length = fs.length := by omega
      have hRv : R = fillE (readAll fs ls (ActP.of kind)) := by rw [← hR]; unfold fillP; rw [if_neg h1, if_neg h2]
      clear hR h1 h2 htn
      go_enter Tryd.func25, Tryd.ntmps25
      go_wp2
      go_loopg [9] ls.length (fun gf u9 wx => ∃ (i : Nat) (a : ActP), u9 = .int .i64 i ∧ i ≤ ls.length ∧ ls.length ≤ i + gf ∧ readAll (fs.take i) (ls.take i) (ActP.of kind) = some a ∧ (i = 0 → a.s = 0) ∧ ActAt wx (W.heap.size + 1) a ∧ Own wx W.heap.size ActP.zero.cs ∧ Below W.heap.size W wx)
      case atStart =>
        refine ⟨0, ActP.of kind, rfl, by omega, by omega, rfl, fun _ => rfl, ?_, ?_, below_alloc (below_alloc (Below.refl _ _) _) _⟩
        · exact own_new' _ _ _ (by simp)
        · exact own_alloc (own_new _ _ _) _
      case round =>
        obtain ⟨i, a, rfl, hi, hfu, hrd, h0s, hact, hown, hb⟩ := hrel
        by_cases hlt : i < ls.length
        · obtain ⟨g', rfl⟩ : ∃ g', gk = g' + 1 := ⟨gk - 1, by omega⟩
          have hltf : i < fs.length := by omega
          obtain ⟨ad, rfl, hc, hsp⟩ := hcell i hlt
          obtain ⟨ab, ao, sp⟩ := ad
          obtain rfl : sp = none := hsp
          have hc1 : wr.cell? ⟨ab, ao + i, none⟩ = some (.string ls[i]) := (hb.cell (p := ⟨ab, ao + i, none⟩) (lt_of_cell' hc)).trans hc
          have hsz : ls[i].size ≤ 1000000 := hls _ (List.getElem_mem hlt)
          have hct := hcut i hltf
          have hst := readAll_step hltf hlt hrd
          have hfl := readAll_fail hltf hlt hrd
          have hfo := hF i hltf
          have hw1 : wrap64 ((i : Int) + 1) = (i : Int) + 1 := IntWalk.wrap64_in _ (by omega)
          generalize ls[i] = l at *
          generalize fs[i] = c at *
          have hnu := fun X => rnum_any l X
          have hby := fun X => rbytes_any l hsz X
          clear hcell hcut hc hls hF hrd hsz
          rcases hfo with ⟨hc115, hi0⟩ | hcx | hcy | hcz | hcd
          · have hs0 := h0s hi0
            have hstA : stepA c l a = if (sideL l).2 then some { a with s := (sideL l).1 } else none := by unfold stepA; rw [if_pos hc115]
            have hup : upC c = 83 := by rw [hc115]; rfl
            rw [hup] at hct
            have e83 := eq_tx [83] [83]
            rw [decide_eq_true rfl] at e83
            clear hi0 h0s hc115 hup
            by_cases hla : l = tx [97]
            · have e97 := seq_true hla
              have e98 : (l.toList == [98]) = false := by rw [hla]; exact (eq_tx [97] [98]).trans rfl
              have hA : stepA c l a = some a := by
                rw [hstA, hla]
                exact congrArg some (side_keep hs0)
              rw [hA] at hst
              clear hstA hA hfl hRv hs0
              generalize (numL l.data.toList).1 = nn at *
              generalize (numL l.data.toList).2 = nb at *
              generalize bytesL l.data.toList = bo at *
              clear hla
              go_wp2_with (first
              | (go_at_call 39; (with_reducible refine (hnu _).mono ?_); rintro e w1 ⟨rfl, hbn⟩; have hact1 := own_below hact hbn; have hown1 := own_below hown hbn; have hcl1 := old_cell hbn hc1)
              | (go_at_call 40; (with_reducible refine (hby _).mono ?_); rintro e w2 ⟨⟨t, rfl, ht⟩, hbb⟩; have hact2 := own_below hact1 hbb; have hown2 := own_below hown1 hbb; have hcl2 := old_cell hbb hcl1; have hb2 := hb.trans ((hbn.mono hb.size).trans (hbb.mono (Nat.le_trans hb.size hbn.size))); obtain ⟨p0, p1, p2, p3, p4, p5, pf⟩ := ActAt.at hact2; obtain ⟨q0, q1, q2, q3, q4, q5, qf⟩ := ActAt.at hown2))
              go_roundg g'
              case measure => omega
              case rel => exact ⟨i + 1, a, rfl, by omega, by omega, hst, fun h => by omega, hact2, hown2, hb2⟩
            · have e97 := seq_false hla
              by_cases hlb : l = tx [98]
              · have e98 := seq_true hlb
                have hA : stepA c l a = some { a with s := 1 } := by rw [hstA, hlb]; rfl
                rw [hA] at hst
                clear hstA hA hfl hRv hs0
                generalize (numL l.data.toList).1 = nn at *
                generalize (numL l.data.toList).2 = nb at *
                generalize bytesL l.data.toList = bo at *
                clear hla hlb
                go_wp2_with (first
              | (go_at_call 39; (with_reducible refine (hnu _).mono ?_); rintro e w1 ⟨rfl, hbn⟩; have hact1 := own_below hact hbn; have hown1 := own_below hown hbn; have hcl1 := old_cell hbn hc1)
              | (go_at_call 40; (with_reducible refine (hby _).mono ?_); rintro e w2 ⟨⟨t, rfl, ht⟩, hbb⟩; have hact2 := own_below hact1 hbb; have hown2 := own_below hown1 hbb; have hcl2 := old_cell hbb hcl1; have hb2 := hb.trans ((hbn.mono hb.size).trans (hbb.mono (Nat.le_trans hb.size hbn.size))); obtain ⟨p0, p1, p2, p3, p4, p5, pf⟩ := ActAt.at hact2; obtain ⟨q0, q1, q2, q3, q4, q5, qf⟩ := ActAt.at hown2))
                go_roundg g'
                case measure => omega
                case rel => exact ⟨i + 1, { a with s := 1 }, rfl, by omega, by omega, hst, fun h => by omega, ActAt.set (a := a) hact2 rfl, own_set_other hown2 (by simp) _, hb2.setCell (Nat.le_succ _) _⟩
              · have e98 := seq_false hlb
                have hA : stepA c l a = none := by rw [hstA]; unfold sideL; rw [if_neg hla, if_neg hlb]; rfl
                have hRv2 : R = (ActP.zero, 4) := by rw [hRv, hfl hA]; rfl
                clear hstA hA hfl hRv hs0 hst
                generalize (numL l.data.toList).1 = nn at *
                generalize (numL l.data.toList).2 = nb at *
                generalize bytesL l.data.toList = bo at *
                clear hla hlb
                go_wp2_with (first
              | (go_at_call 39; (with_reducible refine (hnu _).mono ?_); rintro e w1 ⟨rfl, hbn⟩; have hact1 := own_below hact hbn; have hown1 := own_below hown hbn; have hcl1 := old_cell hbn hc1)
              | (go_at_call 40; (with_reducible refine (hby _).mono ?_); rintro e w2 ⟨⟨t, rfl, ht⟩, hbb⟩; have hact2 := own_below hact1 hbb; have hown2 := own_below hown1 hbb; have hcl2 := old_cell hbb hcl1; have hb2 := hb.trans ((hbn.mono hb.size).trans (hbb.mono (Nat.le_trans hb.size hbn.size))); obtain ⟨p0, p1, p2, p3, p4, p5, pf⟩ := ActAt.at hact2; obtain ⟨q0, q1, q2, q3, q4, q5, qf⟩ := ActAt.at hown2))
                have hownX := hown2
                have hbX := hb2
                have h6 := own_six hownX 0 0 0 0 0 ⟨#[]⟩
                have hb6 := below_six hbX (Nat.le_refl W.heap.size) (.int .i64 0) (.int .i64 0) (.int .i64 0) (.int .i64 0) (.int .i64 0) (.string ⟨#[]⟩)
                clear q0 q1 q2 q3 q4 q5 qf
                obtain ⟨q0, q1, q2, q3, q4, q5, qf⟩ := ActAt.at h6
                dsimp only at q0 q1 q2 q3 q4 q5
                generalize ((((((w2.setCell ⟨W.heap.size, 0, none⟩ (.int .i64 0)).setCell ⟨W.heap.size, 1, none⟩ (.int .i64 0)).setCell ⟨W.heap.size, 2, none⟩ (.int .i64 0)).setCell ⟨W.heap.size, 3, none⟩ (.int .i64 0)).setCell ⟨W.heap.size, 4, none⟩ (.int .i64 0)).setCell ⟨W.heap.size, 5, none⟩ (.string ⟨#[]⟩)) = w3 at *
                ((try simp only [Exit.inBlock, Exit.then]); refine bodyPost_ret (by simp [results, Tryd.results25, go_sem, q0, q1, q2, q3, q4, q5]; try rfl) rfl ?_)
                rw [hRv2]
                exact ⟨rfl, hb6⟩
          · have hstA : stepA c l a = if (numL l.data.toList).2 then some { a with x := (numL l.data.toList).1 } else none := by rw [hcx]; rfl
            have hup : upC c = 88 := by rw [hcx]; rfl
            rw [hup] at hct
            have e83 : ((tx [88]).toList == [83]) = false := (eq_tx [88] [83]).trans rfl
            have e88 : ((tx [88]).toList == [88]) = true := (eq_tx [88] [88]).trans rfl
            have e89 : ((tx [88]).toList == [89]) = false := (eq_tx [88] [89]).trans rfl
            have e90 : ((tx [88]).toList == [90]) = false := (eq_tx [88] [90]).trans rfl
            clear h0s hcx hup
            generalize (numL l.data.toList).1 = nn at *
            cases hnb : (numL l.data.toList).2 with
            | true =>
              rw [hnb] at hnu hstA
              have hA : stepA c l a = some { a with x := nn } := hstA
              rw [hA] at hst
              clear hstA hA hfl hRv hnb
              generalize bytesL l.data.toList = bo at *
              go_wp2_with (first
              | (go_at_call 39; (with_reducible refine (hnu _).mono ?_); rintro e w1 ⟨rfl, hbn⟩; have hact1 := own_below hact hbn; have hown1 := own_below hown hbn; have hcl1 := old_cell hbn hc1)
              | (go_at_call 40; (with_reducible refine (hby _).mono ?_); rintro e w2 ⟨⟨t, rfl, ht⟩, hbb⟩; have hact2 := own_below hact1 hbb; have hown2 := own_below hown1 hbb; have hcl2 := old_cell hbb hcl1; have hb2 := hb.trans ((hbn.mono hb.size).trans (hbb.mono (Nat.le_trans hb.size hbn.size))); obtain ⟨p0, p1, p2, p3, p4, p5, pf⟩ := ActAt.at hact2; obtain ⟨q0, q1, q2, q3, q4, q5, qf⟩ := ActAt.at hown2))
              go_roundg g'
              case measure => omega
              case rel => exact ⟨i + 1, { a with x := nn }, rfl, by omega, by omega, hst, fun h => by omega, ActAt.set (a := a) hact2 rfl, own_set_other hown2 (by simp) _, hb2.setCell (Nat.le_succ _) _⟩
            | false =>
              rw [hnb] at hnu hstA
              have hA : stepA c l a = none := hstA
              have hRv2 : R = (ActP.zero, 4) := by rw [hRv, hfl hA]; rfl
              clear hstA hA hfl hRv hnb hst
              generalize bytesL l.data.toList = bo at *
              go_wp2_with (first
              | (go_at_call 39; (with_reducible refine (hnu _).mono ?_); rintro e w1 ⟨rfl, hbn⟩; have hact1 := own_below hact hbn; have hown1 := own_below hown hbn; have hcl1 := old_cell hbn hc1)
              | (go_at_call 40; (with_reducible refine (hby _).mono ?_); rintro e w2 ⟨⟨t, rfl, ht⟩, hbb⟩; have hact2 := own_below hact1 hbb; have hown2 := own_below hown1 hbb; have hcl2 := old_cell hbb hcl1; have hb2 := hb.trans ((hbn.mono hb.size).trans (hbb.mono (Nat.le_trans hb.size hbn.size))); obtain ⟨p0, p1, p2, p3, p4, p5, pf⟩ := ActAt.at hact2; obtain ⟨q0, q1, q2, q3, q4, q5, qf⟩ := ActAt.at hown2))
              have hownX := own_set_other hown2 (p := ⟨W.heap.size + 1, 2, none⟩) (by simp) (.int .i64 nn)
              have hbX := hb2.setCell (p := ⟨W.heap.size + 1, 2, none⟩) (Nat.le_succ _) (.int .i64 nn)
              generalize (w2.setCell ⟨W.heap.size + 1, 2, none⟩ (.int .i64 nn)) = wX at *
              have h6 := own_six hownX 0 0 0 0 0 ⟨#[]⟩
              have hb6 := below_six hbX (Nat.le_refl W.heap.size) (.int .i64 0) (.int .i64 0) (.int .i64 0) (.int .i64 0) (.int .i64 0) (.string ⟨#[]⟩)
              clear q0 q1 q2 q3 q4 q5 qf
              obtain ⟨q0, q1, q2, q3, q4, q5, qf⟩ := ActAt.at h6
              dsimp only at q0 q1 q2 q3 q4 q5
              generalize ((((((wX.setCell ⟨W.heap.size, 0, none⟩ (.int .i64 0)).setCell ⟨W.heap.size, 1, none⟩ (.int .i64 0)).setCell ⟨W.heap.size, 2, none⟩ (.int .i64 0)).setCell ⟨W.heap.size, 3, none⟩ (.int .i64 0)).setCell ⟨W.heap.size, 4, none⟩ (.int .i64 0)).setCell ⟨W.heap.size, 5, none⟩ (.string ⟨#[]⟩)) = w3 at *
              ((try simp only [Exit.inBlock, Exit.then]); refine bodyPost_ret (by simp [results, Tryd.results25, go_sem, q0, q1, q2, q3, q4, q5]; try rfl) rfl ?_)
              rw [hRv2]
              exact ⟨rfl, hb6⟩
          · have hstA : stepA c l a = if (numL l.data.toList).2 then some { a with y := (numL l.data.toList).1 } else none := by rw [hcy]; rfl
            have hup : upC c = 89 := by rw [hcy]; rfl
            rw [hup] at hct
            have e83 : ((tx [89]).toList == [83]) = false := (eq_tx [89] [83]).trans rfl
            have e88 : ((tx [89]).toList == [88]) = false := (eq_tx [89] [88]).trans rfl
            have e89 : ((tx [89]).toList == [89]) = true := (eq_tx [89] [89]).trans rfl
            have e90 : ((tx [89]).toList == [90]) = false := (eq_tx [89] [90]).trans rfl
            clear h0s hcy hup
            generalize (numL l.data.toList).1 = nn at *
            cases hnb : (numL l.data.toList).2 with
            | true =>
              rw [hnb] at hnu hstA
              have hA : stepA c l a = some { a with y := nn } := hstA
              rw [hA] at hst
              clear hstA hA hfl hRv hnb
              generalize bytesL l.data.toList = bo at *
              go_wp2_with (first
              | (go_at_call 39; (with_reducible refine (hnu _).mono ?_); rintro e w1 ⟨rfl, hbn⟩; have hact1 := own_below hact hbn; have hown1 := own_below hown hbn; have hcl1 := old_cell hbn hc1)
              | (go_at_call 40; (with_reducible refine (hby _).mono ?_); rintro e w2 ⟨⟨t, rfl, ht⟩, hbb⟩; have hact2 := own_below hact1 hbb; have hown2 := own_below hown1 hbb; have hcl2 := old_cell hbb hcl1; have hb2 := hb.trans ((hbn.mono hb.size).trans (hbb.mono (Nat.le_trans hb.size hbn.size))); obtain ⟨p0, p1, p2, p3, p4, p5, pf⟩ := ActAt.at hact2; obtain ⟨q0, q1, q2, q3, q4, q5, qf⟩ := ActAt.at hown2))
              go_roundg g'
              case measure => omega
              case rel => exact ⟨i + 1, { a with y := nn }, rfl, by omega, by omega, hst, fun h => by omega, ActAt.set (a := a) hact2 rfl, own_set_other hown2 (by simp) _, hb2.setCell (Nat.le_succ _) _⟩
            | false =>
              rw [hnb] at hnu hstA
              have hA : stepA c l a = none := hstA
              have hRv2 : R = (ActP.zero, 4) := by rw [hRv, hfl hA]; rfl
              clear hstA hA hfl hRv hnb hst
              generalize bytesL l.data.toList = bo at *
              go_wp2_with (first
              | (go_at_call 39; (with_reducible refine (hnu _).mono ?_); rintro e w1 ⟨rfl, hbn⟩; have hact1 := own_below hact hbn; have hown1 := own_below hown hbn; have hcl1 := old_cell hbn hc1)
              | (go_at_call 40; (with_reducible refine (hby _).mono ?_); rintro e w2 ⟨⟨t, rfl, ht⟩, hbb⟩; have hact2 := own_below hact1 hbb; have hown2 := own_below hown1 hbb; have hcl2 := old_cell hbb hcl1; have hb2 := hb.trans ((hbn.mono hb.size).trans (hbb.mono (Nat.le_trans hb.size hbn.size))); obtain ⟨p0, p1, p2, p3, p4, p5, pf⟩ := ActAt.at hact2; obtain ⟨q0, q1, q2, q3, q4, q5, qf⟩ := ActAt.at hown2))
              have hownX := own_set_other hown2 (p := ⟨W.heap.size + 1, 3, none⟩) (by simp) (.int .i64 nn)
              have hbX := hb2.setCell (p := ⟨W.heap.size + 1, 3, none⟩) (Nat.le_succ _) (.int .i64 nn)
              generalize (w2.setCell ⟨W.heap.size + 1, 3, none⟩ (.int .i64 nn)) = wX at *
              have h6 := own_six hownX 0 0 0 0 0 ⟨#[]⟩
              have hb6 := below_six hbX (Nat.le_refl W.heap.size) (.int .i64 0) (.int .i64 0) (.int .i64 0) (.int .i64 0) (.int .i64 0) (.string ⟨#[]⟩)
              clear q0 q1 q2 q3 q4 q5 qf
              obtain ⟨q0, q1, q2, q3, q4, q5, qf⟩ := ActAt.at h6
              dsimp only at q0 q1 q2 q3 q4 q5
              generalize ((((((wX.setCell ⟨W.heap.size, 0, none⟩ (.int .i64 0)).setCell ⟨W.heap.size, 1, none⟩ (.int .i64 0)).setCell ⟨W.heap.size, 2, none⟩ (.int .i64 0)).setCell ⟨W.heap.size, 3, none⟩ (.int .i64 0)).setCell ⟨W.heap.size, 4, none⟩ (.int .i64 0)).setCell ⟨W.heap.size, 5, none⟩ (.string ⟨#[]⟩)) = w3 at *
              ((try simp only [Exit.inBlock, Exit.then]); refine bodyPost_ret (by simp [results, Tryd.results25, go_sem, q0, q1, q2, q3, q4, q5]; try rfl) rfl ?_)
              rw [hRv2]
              exact ⟨rfl, hb6⟩
          · have hstA : stepA c l a = if (numL l.data.toList).2 then some { a with z := (numL l.data.toList).1 } else none := by rw [hcz]; rfl
            have hup : upC c = 90 := by rw [hcz]; rfl
            rw [hup] at hct
            have e83 : ((tx [90]).toList == [83]) = false := (eq_tx [90] [83]).trans rfl
            have e88 : ((tx [90]).toList == [88]) = false := (eq_tx [90] [88]).trans rfl
            have e89 : ((tx [90]).toList == [89]) = false := (eq_tx [90] [89]).trans rfl
            have e90 : ((tx [90]).toList == [90]) = true := (eq_tx [90] [90]).trans rfl
            clear h0s hcz hup
            generalize (numL l.data.toList).1 = nn at *
            cases hnb : (numL l.data.toList).2 with
            | true =>
              rw [hnb] at hnu hstA
              have hA : stepA c l a = some { a with z := nn } := hstA
              rw [hA] at hst
              clear hstA hA hfl hRv hnb
              generalize bytesL l.data.toList = bo at *
              go_wp2_with (first
              | (go_at_call 39; (with_reducible refine (hnu _).mono ?_); rintro e w1 ⟨rfl, hbn⟩; have hact1 := own_below hact hbn; have hown1 := own_below hown hbn; have hcl1 := old_cell hbn hc1)
              | (go_at_call 40; (with_reducible refine (hby _).mono ?_); rintro e w2 ⟨⟨t, rfl, ht⟩, hbb⟩; have hact2 := own_below hact1 hbb; have hown2 := own_below hown1 hbb; have hcl2 := old_cell hbb hcl1; have hb2 := hb.trans ((hbn.mono hb.size).trans (hbb.mono (Nat.le_trans hb.size hbn.size))); obtain ⟨p0, p1, p2, p3, p4, p5, pf⟩ := ActAt.at hact2; obtain ⟨q0, q1, q2, q3, q4, q5, qf⟩ := ActAt.at hown2))
              go_roundg g'
              case measure => omega
              case rel => exact ⟨i + 1, { a with z := nn }, rfl, by omega, by omega, hst, fun h => by omega, ActAt.set (a := a) hact2 rfl, own_set_other hown2 (by simp) _, hb2.setCell (Nat.le_succ _) _⟩
            | false =>
              rw [hnb] at hnu hstA
              have hA : stepA c l a = none := hstA
              have hRv2 : R = (ActP.zero, 4) := by rw [hRv, hfl hA]; rfl
              clear hstA hA hfl hRv hnb hst
              generalize bytesL l.data.toList = bo at *
              go_wp2_with (first
              | (go_at_call 39; (with_reducible refine (hnu _).mono ?_); rintro e w1 ⟨rfl, hbn⟩; have hact1 := own_below hact hbn; have hown1 := own_below hown hbn; have hcl1 := old_cell hbn hc1)
              | (go_at_call 40; (with_reducible refine (hby _).mono ?_); rintro e w2 ⟨⟨t, rfl, ht⟩, hbb⟩; have hact2 := own_below hact1 hbb; have hown2 := own_below hown1 hbb; have hcl2 := old_cell hbb hcl1; have hb2 := hb.trans ((hbn.mono hb.size).trans (hbb.mono (Nat.le_trans hb.size hbn.size))); obtain ⟨p0, p1, p2, p3, p4, p5, pf⟩ := ActAt.at hact2; obtain ⟨q0, q1, q2, q3, q4, q5, qf⟩ := ActAt.at hown2))
              have hownX := own_set_other hown2 (p := ⟨W.heap.size + 1, 4, none⟩) (by simp) (.int .i64 nn)
              have hbX := hb2.setCell (p := ⟨W.heap.size + 1, 4, none⟩) (Nat.le_succ _) (.int .i64 nn)
              generalize (w2.setCell ⟨W.heap.size + 1, 4, none⟩ (.int .i64 nn)) = wX at *
              have h6 := own_six hownX 0 0 0 0 0 ⟨#[]⟩
              have hb6 := below_six hbX (Nat.le_refl W.heap.size) (.int .i64 0) (.int .i64 0) (.int .i64 0) (.int .i64 0) (.int .i64 0) (.string ⟨#[]⟩)
              clear q0 q1 q2 q3 q4 q5 qf
              obtain ⟨q0, q1, q2, q3, q4, q5, qf⟩ := ActAt.at h6
              dsimp only at q0 q1 q2 q3 q4 q5
              generalize ((((((wX.setCell ⟨W.heap.size, 0, none⟩ (.int .i64 0)).setCell ⟨W.heap.size, 1, none⟩ (.int .i64 0)).setCell ⟨W.heap.size, 2, none⟩ (.int .i64 0)).setCell ⟨W.heap.size, 3, none⟩ (.int .i64 0)).setCell ⟨W.heap.size, 4, none⟩ (.int .i64 0)).setCell ⟨W.heap.size, 5, none⟩ (.string ⟨#[]⟩)) = w3 at *
              ((try simp only [Exit.inBlock, Exit.then]); refine bodyPost_ret (by simp [results, Tryd.results25, go_sem, q0, q1, q2, q3, q4, q5]; try rfl) rfl ?_)
              rw [hRv2]
              exact ⟨rfl, hb6⟩
          · have hstA : stepA c l a = (bytesL l.data.toList).map fun b => { a with d := tx b } := by rw [hcd]; rfl
            have hup : upC c = 68 := by rw [hcd]; rfl
            rw [hup] at hct
            have e83 : ((tx [68]).toList == [83]) = false := (eq_tx [68] [83]).trans rfl
            have e88 : ((tx [68]).toList == [88]) = false := (eq_tx [68] [88]).trans rfl
            have e89 : ((tx [68]).toList == [89]) = false := (eq_tx [68] [89]).trans rfl
            have e90 : ((tx [68]).toList == [90]) = false := (eq_tx [68] [90]).trans rfl
            have e68 : ((tx [68]).toList == [68]) = true := (eq_tx [68] [68]).trans rfl
            clear h0s hcd hup
            generalize (numL l.data.toList).1 = nn at *
            generalize (numL l.data.toList).2 = nb at *
            cases hbo : bytesL l.data.toList with
            | some bs =>
              rw [hbo] at hby hstA
              have hA : stepA c l a = some { a with d := tx bs } := hstA
              rw [hA] at hst
              clear hstA hA hfl hRv hbo
              go_wp2_with (first
              | (go_at_call 39; (with_reducible refine (hnu _).mono ?_); rintro e w1 ⟨rfl, hbn⟩; have hact1 := own_below hact hbn; have hown1 := own_below hown hbn; have hcl1 := old_cell hbn hc1)
              | (go_at_call 40; (with_reducible refine (hby _).mono ?_); rintro e w2 ⟨⟨t, rfl, ht⟩, hbb⟩; have hact2 := own_below hact1 hbb; have hown2 := own_below hown1 hbb; have hcl2 := old_cell hbb hcl1; have hb2 := hb.trans ((hbn.mono hb.size).trans (hbb.mono (Nat.le_trans hb.size hbn.size))); obtain ⟨p0, p1, p2, p3, p4, p5, pf⟩ := ActAt.at hact2; obtain ⟨q0, q1, q2, q3, q4, q5, qf⟩ := ActAt.at hown2))
              obtain rfl := ht _ rfl
              go_roundg g'
              case measure => omega
              case rel => exact ⟨i + 1, { a with d := tx bs }, rfl, by omega, by omega, hst, fun h => by omega, ActAt.set (a := a) hact2 rfl, own_set_other hown2 (by simp) _, hb2.setCell (Nat.le_succ _) _⟩
            | none =>
              rw [hbo] at hby hstA
              have hA : stepA c l a = none := hstA
              have hRv2 : R = (ActP.zero, 4) := by rw [hRv, hfl hA]; rfl
              clear hstA hA hfl hRv hbo hst
              go_wp2_with (first
              | (go_at_call 39; (with_reducible refine (hnu _).mono ?_); rintro e w1 ⟨rfl, hbn⟩; have hact1 := own_below hact hbn; have hown1 := own_below hown hbn; have hcl1 := old_cell hbn hc1)
              | (go_at_call 40; (with_reducible refine (hby _).mono ?_); rintro e w2 ⟨⟨t, rfl, ht⟩, hbb⟩; have hact2 := own_below hact1 hbb; have hown2 := own_below hown1 hbb; have hcl2 := old_cell hbb hcl1; have hb2 := hb.trans ((hbn.mono hb.size).trans (hbb.mono (Nat.le_trans hb.size hbn.size))); obtain ⟨p0, p1, p2, p3, p4, p5, pf⟩ := ActAt.at hact2; obtain ⟨q0, q1, q2, q3, q4, q5, qf⟩ := ActAt.at hown2))
              have hownX := own_set_other hown2 (p := ⟨W.heap.size + 1, 5, none⟩) (by simp) (.string t)
              have hbX := hb2.setCell (p := ⟨W.heap.size + 1, 5, none⟩) (Nat.le_succ _) (.string t)
              generalize (w2.setCell ⟨W.heap.size + 1, 5, none⟩ (.string t)) = wX at *
              have h6 := own_six hownX 0 0 0 0 0 ⟨#[]⟩
              have hb6 := below_six hbX (Nat.le_refl W.heap.size) (.int .i64 0) (.int .i64 0) (.int .i64 0) (.int .i64 0) (.int .i64 0) (.string ⟨#[]⟩)
              clear q0 q1 q2 q3 q4 q5 qf
              obtain ⟨q0, q1, q2, q3, q4, q5, qf⟩ := ActAt.at h6
              dsimp only at q0 q1 q2 q3 q4 q5
              generalize ((((((wX.setCell ⟨W.heap.size, 0, none⟩ (.int .i64 0)).setCell ⟨W.heap.size, 1, none⟩ (.int .i64 0)).setCell ⟨W.heap.size, 2, none⟩ (.int .i64 0)).setCell ⟨W.heap.size, 3, none⟩ (.int .i64 0)).setCell ⟨W.heap.size, 4, none⟩ (.int .i64 0)).setCell ⟨W.heap.size, 5, none⟩ (.string ⟨#[]⟩)) = w3 at *
              ((try simp only [Exit.inBlock, Exit.then]); refine bodyPost_ret (by simp [results, Tryd.results25, go_sem, q0, q1, q2, q3, q4, q5]; try rfl) rfl ?_)
              rw [hRv2]
              exact ⟨rfl, hb6⟩
        · obtain rfl : i = ls.length := by omega
          have e1 : ls.take ls.length = ls := List.take_length
          have e2 : fs.take ls.length = fs := by rw [heq, List.take_length]
          rw [e1, e2] at hrd
          have hRv2 : R = (a, 0) := by rw [hRv, hrd]; rfl
          obtain ⟨p0, p1, p2, p3, p4, p5, pf⟩ := ActAt.at hact
          obtain ⟨q0, q1, q2, q3, q4, q5, qf⟩ := ActAt.at hown
          clear hcell hRv hrd
          go_wp2
          have h6 := own_six hown a.k a.s a.x a.y a.z a.d
          have hb6 := below_six hb (Nat.le_refl W.heap.size) (.int .i64 a.k) (.int .i64 a.s) (.int .i64 a.x) (.int .i64 a.y) (.int .i64 a.z) (.string a.d)
          clear q0 q1 q2 q3 q4 q5 qf p0 p1 p2 p3 p4 p5 pf
          obtain ⟨q0, q1, q2, q3, q4, q5, qf⟩ := ActAt.at h6
          dsimp only at q0 q1 q2 q3 q4 q5
          generalize ((((((wr.setCell ⟨W.heap.size, 0, none⟩ (.int .i64 a.k)).setCell ⟨W.heap.size, 1, none⟩ (.int .i64 a.s)).setCell ⟨W.heap.size, 2, none⟩ (.int .i64 a.x)).setCell ⟨W.heap.size, 3, none⟩ (.int .i64 a.y)).setCell ⟨W.heap.size, 4, none⟩ (.int .i64 a.z)).setCell ⟨W.heap.size, 5, none⟩ (.string a.d)) = w2 at *
          ((try simp only [Exit.inBlock, Exit.then]); refine bodyPost_ret (by simp [results, Tryd.results25, go_sem, q0, q1, q2, q3, q4, q5]; try rfl) rfl ?_)
          rw [hRv2]
          exact ⟨rfl, hb6⟩
end Go.Proofs.YtdhdkfnmbdejbaaDoor
