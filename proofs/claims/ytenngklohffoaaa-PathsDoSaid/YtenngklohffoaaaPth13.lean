/- Paths: a state that is set at one place. No conditions. -/
import Derived.Test.YtenngklohffoaaaPth4
namespace Go.Proofs.Ytenngklohffoaaa
set_option linter.unusedVariables false
set_option linter.unusedSimpArgs false
open Go.RowKit Sym Go.Maps Go.WideMaps Go.Sort Go.Lib Go.Shelf

def stP (r : PRow) (s : Int) : PRow := ⟨r.p, r.x, r.y, s, r.pr, r.se, r.ctl, r.F⟩
def setR (x y s : Int) (r : PRow) : PRow := if r.x = x ∧ r.y = y then stP r s else r
theorem setR_same (x y s : Int) (r : PRow) : (setR x y s r).p = r.p ∧ (setR x y s r).x = r.x ∧ (setR x y s r).y = r.y ∧ (setR x y s r).pr = r.pr ∧ (setR x y s r).se = r.se ∧ (setR x y s r).ctl = r.ctl ∧ (setR x y s r).F = r.F := by
  unfold setR
  split <;> exact ⟨rfl, rfl, rfl, rfl, rfl, rfl, rfl⟩
def setL (L : List PRow) (x y s : Int) : List PRow := L.map (setR x y s)
/-- blocks of a table's paths are apart -/
structure SepAt (tb b : Nat) (L : List PRow) : Prop where
  pp : L.Pairwise fun r s => r.p ≠ s.p
  pF : ∀ r ∈ L, ∀ s ∈ L, r.p ∉ s.F
  pt : ∀ r ∈ L, r.p ≠ tb
  bF : ∀ r ∈ L, b ∉ r.F
theorem SepAt.set {tb b : Nat} {L : List PRow} (h : SepAt tb b L) (x y s : Int) : SepAt tb b (setL L x y s) := by
  refine ⟨List.pairwise_map.2 (h.pp.imp fun {a c} hne => by rw [(setR_same x y s a).1, (setR_same x y s c).1]; exact hne), fun r hr t ht => ?_, fun r hr => ?_, fun r hr => ?_⟩
  · obtain ⟨r0, hr0, rfl⟩ := List.mem_map.1 hr
    obtain ⟨t0, ht0, rfl⟩ := List.mem_map.1 ht
    rw [(setR_same x y s r0).1, (setR_same x y s t0).2.2.2.2.2.2]
    exact h.pF r0 hr0 t0 ht0
  · obtain ⟨r0, hr0, rfl⟩ := List.mem_map.1 hr
    rw [(setR_same x y s r0).1]
    exact h.pt r0 hr0
  · obtain ⟨r0, hr0, rfl⟩ := List.mem_map.1 hr
    rw [(setR_same x y s r0).2.2.2.2.2.2]
    exact h.bF r0 hr0
theorem apart_set {L : List PRow} (h : Apart L) (x y s : Int) : Apart (setL L x y s) := by
  refine ⟨fun r hr => ?_, List.pairwise_map.2 (h.2.imp fun {a c} hne => by rw [(setR_same x y s a).2.1, (setR_same x y s c).2.1, (setR_same x y s a).2.2.1, (setR_same x y s c).2.2.1]; exact hne)⟩
  obtain ⟨r0, hr0, rfl⟩ := List.mem_map.1 hr
  have := h.1 r0 hr0
  unfold InR at this ⊢
  rw [(setR_same x y s r0).2.1, (setR_same x y s r0).2.2.1]
  exact this
theorem full_set {w : World} {tb b : Nat} {L : List PRow} (h : FullAt w tb b L) (hs : SepAt tb b L) {r : PRow} (hr : r ∈ L) (s : Int) : FullAt (w.setCell ⟨r.p, 2, none⟩ (.int .i64 s)) tb b (setL L r.x r.y s) := by
  have ho : ∀ k, k ≠ r.p → (w.setCell ⟨r.p, 2, none⟩ (.int .i64 s)).heap[k]? = w.heap[k]? := fun k hk => heap_setCell_other w ⟨r.p, 2, none⟩ k _ (fun e => hk (by exact e))
  obtain ⟨D, hown, hD⟩ := h.tab.map
  have hpk := h.tab.path r hr
  have hc : ∀ j : Nat, j ≠ 2 → (w.setCell ⟨r.p, 2, none⟩ (.int .i64 s)).cell? ⟨r.p, j, none⟩ = w.cell? ⟨r.p, j, none⟩ := fun j hj => World.cell?_setCell_other (w := w) (a := ⟨r.p, 2, none⟩) (b := ⟨r.p, j, none⟩) (v := .int .i64 s) (h := fun e => hj (by injection e with _ e2 _; exact e2.symm))
  have hcs : (w.setCell ⟨r.p, 2, none⟩ (.int .i64 s)).cell? ⟨r.p, 2, none⟩ = some (.int .i64 s) := World.cell?_setCell_same (w := w) (a := ⟨r.p, 2, none⟩) (v := .int .i64 s) (h := hpk.st)
  refine ⟨⟨(World.cell?_of_block (a := ⟨tb, 0, none⟩) (ho tb (fun e => hs.pt r hr e.symm))).trans h.tab.tab, ⟨D, ?_, ?_⟩, apart_set h.tab.ap _ _ _, by unfold setL; rw [List.length_map]; exact h.tab.six, ?_, h.tab.ne, ?_⟩, ?_⟩
  · unfold setL
    rw [List.length_map]
    unfold World.ownsMap at hown ⊢
    rw [ho b (fun e => h.tab.sep r hr e.symm)]
    exact hown
  · obtain ⟨es, e1, e2⟩ := hD
    refine ⟨es, e1, ?_⟩
    have : (setL L r.x r.y s).map ent = L.map ent := by
      unfold setL
      rw [List.map_map]
      refine List.map_congr_left fun t _ => ?_
      show ent (setR r.x r.y s t) = ent t
      unfold ent ptrOf
      rw [(setR_same r.x r.y s t).1, (setR_same r.x r.y s t).2.1, (setR_same r.x r.y s t).2.2.1]
    rw [this]; exact e2
  · intro t ht
    obtain ⟨t0, ht0, rfl⟩ := List.mem_map.1 ht
    by_cases hp : t0.x = r.x ∧ t0.y = r.y
    · obtain rfl := apart_unique h.tab.ap ht0 hr hp
      have e : setR t0.x t0.y s t0 = stP t0 s := by unfold setR; rw [if_pos ⟨rfl, rfl⟩]
      rw [e]
      exact ⟨(hc 0 (by omega)).trans hpk.x, (hc 1 (by omega)).trans hpk.y, hcs, (hc 3 (by omega)).trans hpk.pr, (hc 5 (by omega)).trans hpk.ctl, by rw [frozen?_set]; exact hpk.fz⟩
    · have e : setR r.x r.y s t0 = t0 := by unfold setR; rw [if_neg hp]
      rw [e]
      refine (h.tab.path t0 ht0).kept (ho _ fun e => hp ?_)
      have hpp := hs.pp
      have heq : t0 = r := by
        by_cases hq : t0 = r
        · exact hq
        · exfalso
          obtain ⟨i, hi, rfl⟩ := List.getElem_of_mem ht0
          obtain ⟨j, hj, rfl⟩ := List.getElem_of_mem hr
          rw [List.pairwise_iff_getElem] at hpp
          rcases Nat.lt_trichotomy i j with h1 | h1 | h1
          · exact hpp i j hi hj h1 e
          · subst h1; exact hq rfl
          · exact hpp j i hj hi h1 e.symm
      rw [heq]; exact ⟨rfl, rfl⟩
  · intro t ht
    obtain ⟨t0, ht0, rfl⟩ := List.mem_map.1 ht
    rw [(setR_same r.x r.y s t0).1]
    exact h.tab.sep t0 ht0
  · intro t ht
    obtain ⟨t0, ht0, rfl⟩ := List.mem_map.1 ht
    obtain ⟨-, -, -, -, e5, e6, e7⟩ := setR_same r.x r.y s t0
    rw [e5, e6, e7]
    exact (h.ctl t0 ht0).kept fun k hk => ho k fun e => hs.pF r hr t0 ht0 (e ▸ hk)
theorem rowsV_set : ∀ (L : List PRow) (k : Nat) (hk : k < L.length) (s : Int), rowsV (L.set k (stP L[k] s)) = (rowsV L).set (k * 5 + 2) (.int .i64 s)
  | [], k, hk, _ => by simp at hk
  | r :: L, 0, _, s => rfl
  | r :: L, k + 1, hk, s => by
    have hk' : k < L.length := by simpa using hk
    have ih := rowsV_set L k hk' s
    show rowV r ++ rowsV (L.set k (stP L[k] s)) = (rowV r ++ rowsV L).set ((k + 1) * 5 + 2) (.int .i64 s)
    rw [ih, List.set_append_right (h := by show 5 ≤ (k + 1) * 5 + 2; omega)]
    congr 2
    show k * 5 + 2 = (k + 1) * 5 + 2 - 5
    omega
theorem setL_at {L : List PRow} (hap : Apart L) {k : Nat} (hk : k < L.length) (s : Int) : setL L L[k].x L[k].y s = L.set k (stP L[k] s) := by
  apply List.ext_getElem
  · unfold setL; simp
  · intro i h1 h2
    have hi : i < L.length := by simpa using h2
    have e1 : (setL L L[k].x L[k].y s)[i]'h1 = setR L[k].x L[k].y s L[i] := List.getElem_map ..
    rw [e1, List.getElem_set]
    by_cases hik : k = i
    · subst hik
      rw [if_pos rfl]
      unfold setR; rw [if_pos ⟨rfl, rfl⟩]
    · rw [if_neg hik]
      unfold setR
      rw [if_neg]
      intro hp
      have h3 := apart_unique hap (List.getElem_mem hi) (List.getElem_mem hk) hp
      have hnd := hap.nodup
      rw [List.Nodup, List.pairwise_iff_getElem] at hnd
      rcases Nat.lt_trichotomy i k with h4 | h4 | h4
      · exact hnd i k hi hk h4 h3
      · exact hik h4.symm
      · exact hnd k i hk hi h4 h3.symm
theorem rows_set {w : World} {base g cap : Nat} {L : List PRow} (hap : Apart L) (h : Rows5 w base (.slice (some ⟨g, 0, none⟩) L.length cap) L) {k : Nat} (hk : k < L.length) (s : Int) :
    Rows5 (w.setCell ⟨g, k * 5 + 2, none⟩ (.int .i64 s)) base (.slice (some ⟨g, 0, none⟩) L.length cap) (setL L L[k].x L[k].y s) := by
  have h1 : w.ownsRow base 53 5 (.slice (some ⟨g, 0, none⟩) L.length cap) L.length (rowsV L) := h
  have h2 := (h1.stored (k * 5 + 2) (.int .i64 s)).1
  unfold Rows5
  rw [setL_at hap hk, rowsV_set L k hk, List.length_set]
  exact h2
end Go.Proofs.Ytenngklohffoaaa
