/- Paths: the rows that a law keeps beside a table; rows by rising numbers. No conditions. -/
import Derived.Test.YtenngklohffoaaaPthI
import Derived.Test.YtenngklohffoaaaPthJ
namespace Go.Proofs.Ytenngklohffoaaa
set_option linter.unusedVariables false
set_option linter.unusedSimpArgs false
open Go.RowKit Sym Go.Maps Go.WideMaps Go.Sort Go.Lib Go.Shelf

def rowV (r : PRow) : List Value := [.int .i64 r.x, .int .i64 r.y, .int .i64 r.st, .int .i64 r.pr, .int .i64 r.se]
def rowsV (L : List PRow) : List Value := L.flatMap rowV
theorem rowV_one (r : PRow) : ∀ u ∈ rowV r, u.oneCell' = true := by
  intro u hu
  unfold rowV at hu
  simp only [List.mem_cons, List.not_mem_nil, or_false] at hu
  rcases hu with rfl | rfl | rfl | rfl | rfl <;> rfl
theorem rowsV_len : ∀ L : List PRow, (rowsV L).length = L.length * 5
  | [] => rfl
  | r :: L => by
    have := rowsV_len L
    unfold rowsV at this ⊢
    rw [List.flatMap_cons, List.length_append, this, List.length_cons]
    show 5 + _ = _
    omega
theorem rowsV_get : ∀ (L : List PRow) (i : Nat) (hi : i < L.length) (j : Nat) (_ : j < 5), (rowsV L)[i * 5 + j]? = (rowV L[i])[j]?
  | [], i, hi, _, _ => by simp at hi
  | r :: L, 0, _, j, hj => by
    show (rowV r ++ rowsV L)[0 * 5 + j]? = _
    rw [List.getElem?_append_left (by show 0 * 5 + j < 5; omega)]
    simp
  | r :: L, i + 1, hi, j, hj => by
    show (rowV r ++ rowsV L)[(i + 1) * 5 + j]? = _
    rw [List.getElem?_append_right (by show 5 ≤ (i + 1) * 5 + j; omega)]
    have e : (i + 1) * 5 + j - (rowV r).length = i * 5 + j := by show (i + 1) * 5 + j - 5 = _; omega
    rw [e, rowsV_get L i (by simpa using hi) j hj]
    simp
theorem rowsV_append (a b : List PRow) : rowsV (a ++ b) = rowsV a ++ rowsV b := List.flatMap_append
/-- rows that are told by u -/
def Rows5 (w : World) (base : Nat) (u : Value) (L : List PRow) : Prop := w.ownsRow base 53 5 u L.length (rowsV L)
theorem rows_view {w : World} {base : Nat} {u : Value} {L : List PRow} (h : Rows5 w base u L) : ∃ p cap, u = .slice p L.length cap ∧ ∀ i (hi : i < L.length), ∃ g, p = some ⟨g, 0, none⟩ ∧ base ≤ g ∧ g < w.heap.size ∧
    w.cell? ⟨g, i * 5, none⟩ = some (.int .i64 L[i].x) ∧ w.cell? ⟨g, i * 5 + 1, none⟩ = some (.int .i64 L[i].y) ∧ w.cell? ⟨g, i * 5 + 2, none⟩ = some (.int .i64 L[i].st) ∧ w.cell? ⟨g, i * 5 + 3, none⟩ = some (.int .i64 L[i].pr) ∧ w.cell? ⟨g, i * 5 + 4, none⟩ = some (.int .i64 L[i].se) := by
  have h' : w.ownsRow base 53 5 u L.length (rowsV L) := h
  rcases h.2 with ⟨rfl, hz⟩ | ⟨g, cap, cur, rfl, hbase, hb, h1, h2, h3, h4⟩
  · exact ⟨none, 0, by rw [hz], fun i hi => by omega⟩
  · refine ⟨some ⟨g, 0, none⟩, cap, rfl, fun i hi => ⟨g, rfl, hbase, (Array.getElem?_eq_some_iff.1 hb).1, ?_⟩⟩
    have hc : ∀ j v, j < 5 → (rowV L[i])[j]? = some v → w.cell? ⟨g, i * 5 + j, none⟩ = some v := fun j v hj hv => by
      have := h'.cellAt (i * 5 + j) (by omega)
      rw [this, rowsV_get L i hi j hj, hv]
    exact ⟨hc 0 _ (by omega) rfl, hc 1 _ (by omega) rfl, hc 2 _ (by omega) rfl, hc 3 _ (by omega) rfl, hc 4 _ (by omega) rfl⟩
theorem row_infoP : (Try.prog.info? 53).map (fun i => (i.zero, i.size, i.bytes)) = some (some (.agg #[.int .i64 0, .int .i64 0, .int .i64 0, .int .i64 0, .int .i64 0]), 5, 40) := by kernel_rfl
def risTo (k : Nat) (L : List PRow) : List PRow := (List.range k).flatMap fun id : Nat => L.filter fun r => decide (idP r = (id : Int))
theorem risTo_succ (k : Nat) (L : List PRow) : risTo (k + 1) L = risTo k L ++ L.filter fun r => decide (idP r = k) := by
  unfold risTo
  rw [List.range_succ, List.flatMap_append]
  simp
theorem risTo_len : ∀ (k : Nat) (L : List PRow), (risTo k L).length ≤ k * L.length
  | 0, L => by simp [risTo]
  | k + 1, L => by
    rw [risTo_succ, List.length_append]
    have h1 := risTo_len k L
    have h2 := List.length_filter_le (fun r => decide (idP r = k)) L
    rw [Nat.succ_mul]
    omega
theorem filter_take {L : List PRow} {i : Nat} (hi : i < L.length) (k : Nat) : (L.take (i + 1)).filter (fun r => decide (idP r = k)) = (L.take i).filter (fun r => decide (idP r = k)) ++ (if idP L[i] = k then [L[i]] else []) := by
  rw [List.take_succ_eq_append_getElem hi, List.filter_append]
  congr 1
  by_cases h : idP L[i] = k <;> simp [h]
theorem risTo_order {L : List PRow} (hap : Apart L) : InOrder L (risTo 256 L) := by
  have hpw : ∀ k, (risTo k L).Pairwise (fun r s => idP r < idP s) ∧ ∀ r ∈ risTo k L, idP r < k := by
    intro k
    induction k with
    | zero => exact ⟨List.Pairwise.nil, fun r hr => by simp [risTo] at hr⟩
    | succ k ih =>
      rw [risTo_succ]
      refine ⟨List.pairwise_append.2 ⟨ih.1, ?_, ?_⟩, ?_⟩
      · refine (hap.2.filter _).imp_of_mem fun {r s} hr hs hne => ?_
        exfalso
        have h1 := of_decide_eq_true (List.mem_filter.1 hr).2
        have h2 := of_decide_eq_true (List.mem_filter.1 hs).2
        have i1 := hap.1 r (List.mem_filter.1 hr).1
        have i2 := hap.1 s (List.mem_filter.1 hs).1
        unfold idP at h1 h2
        unfold InR at i1 i2
        exact hne (by omega)
      · intro a ha b hb
        have h1 := ih.2 a ha
        have h2 := of_decide_eq_true (List.mem_filter.1 hb).2
        omega
      · intro r hr
        rcases List.mem_append.1 hr with h | h
        · have := ih.2 r h; omega
        · have h2 := of_decide_eq_true (List.mem_filter.1 h).2
          omega
  refine ⟨(List.perm_ext_iff_of_nodup ((hpw 256).1.imp fun {a b} h e => by rw [e] at h; omega) hap.nodup).2 fun r => ?_, (hpw 256).1⟩
  unfold risTo
  rw [List.mem_flatMap]
  constructor
  · rintro ⟨id, -, h⟩
    exact (List.mem_filter.1 h).1
  · intro h
    have i1 := hap.1 r h
    unfold InR at i1
    refine ⟨(idP r).toNat, ?_, List.mem_filter.2 ⟨h, ?_⟩⟩
    · rw [List.mem_range]; unfold idP; omega
    · rw [decide_eq_true_eq]; unfold idP; omega
end Go.Proofs.Ytenngklohffoaaa
