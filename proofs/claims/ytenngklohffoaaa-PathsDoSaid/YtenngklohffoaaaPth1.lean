/- Paths: a new table and a new control where the world is told. No conditions. -/
import Derived.Test.YtenngklohffoaaaPthP
namespace Go.Proofs.Ytenngklohffoaaa
set_option linter.unusedVariables false
set_option linter.unusedSimpArgs false
open Go.RowKit Sym Go.Maps Go.WideMaps Go.Sort Go.Lib

theorem newTab (w : World) : TabAt ((w.alloc (.map #[] 0)).alloc (.cells #[.map (some w.heap.size)] 64)) (w.heap.size + 1) w.heap.size [] := by
  have hs : (w.alloc (.map #[] 0)).heap.size = w.heap.size + 1 := by simp
  refine ⟨?_, ⟨.map [], ?_, ⟨[], rfl, List.Perm.nil⟩⟩, ⟨(fun r hr => absurd hr (by simp)), List.Pairwise.nil⟩, Nat.zero_le _, (fun r hr => absurd hr (by simp)), (by omega), (fun r hr => absurd hr (by simp))⟩
  · have := (own_new' (w.alloc (.map #[] 0)) #[.map (some w.heap.size)] 64 hs.symm).2.1 0
    rw [this]; rfl
  · exact (World.ownsMap_made w Try.prog 23 R0).alloc _
theorem tos_get {B : List Value} : ∀ {l : List SV} {vs : List Value}, SV.tos B l = some vs → ∀ {i : Nat} {s : SV}, l[i]? = some s → ∃ v, s.to B = some v ∧ vs[i]? = some v
  | [], _, _, i, s, h => by simp at h
  | t :: l, vs, e, i, s, h => by
    obtain ⟨x, r, g, v, rfl⟩ := tos_cons e
    cases i with
    | zero =>
      simp only [List.getElem?_cons_zero, Option.some.injEq] at h
      subst h
      exact ⟨x, g, rfl⟩
    | succ i =>
      simp only [List.getElem?_cons_succ] at h ⊢
      exact tos_get v h
/-- a cell of a letter -/
theorem cell_of {w0 w : World} {bs : List Nat} {H : List Blk} {B : List Value} (hm : Mem w0 bs H B w) {k : Nat} {cells : List SV} (hk : H[k]? = some (.own cells)) : ∃ b, B[k]? = some (.pointer (some ⟨b, 0, none⟩)) ∧ (b ∈ bs ∨ w0.heap.size ≤ b) ∧
    ∀ i s, cells[i]? = some s → ∃ v, s.to B = some v ∧ w.cell? ⟨b, i, none⟩ = some v := by
  obtain ⟨b, vs, e1, e2, e3⟩ := hm.own_at hk
  refine ⟨b, e1, hm.good k b ⟨_, _, hk, rfl, e1, rfl⟩, fun i s hs => ?_⟩
  obtain ⟨v, h1, h2⟩ := tos_get e2 hs
  exact ⟨v, h1, by rw [e3.2.1 i]; simpa using h2⟩
theorem cell_c {w : World} {B : List Value} {b i : Nat} {v : Value} (h : ∃ u, (SV.v v).to B = some u ∧ w.cell? ⟨b, i, none⟩ = some u) : w.cell? ⟨b, i, none⟩ = some v := by
  obtain ⟨u, h1, h2⟩ := h
  simp only [SV.to, Option.some.injEq] at h1
  rw [h1]; exact h2
theorem cell_p {w : World} {B : List Value} {b i k c : Nat} (hk : B[k]? = some (.pointer (some ⟨c, 0, none⟩))) (h : ∃ u, (SV.ptr k 0).to B = some u ∧ w.cell? ⟨b, i, none⟩ = some u) : w.cell? ⟨b, i, none⟩ = some (.pointer (some ⟨c, 0, none⟩)) := by
  obtain ⟨u, h1, h2⟩ := h
  simp only [SV.to, hk, Option.some.injEq] at h1
  rw [h2, ← h1]
theorem ctl_new (w : World) : Calls Try.prog 19 #[.int .i64 0] w fun e w' => ∃ c F, e = .returned (.pointer (some ⟨c, 0, none⟩)) ∧ CtlAt w' (.pointer (some ⟨c, 0, none⟩)) 0 F ∧ (∀ k ∈ F, w.heap.size ≤ k) ∧ Below w.heap.size w w' := by
  refine (ccnew w).mono ?_
  rintro e w' ⟨B, x, rfl, hx, hm⟩
  obtain ⟨c, hc, gc, cc⟩ := cell_of hm (k := 0) rfl
  obtain ⟨f, hf, gf, cf⟩ := cell_of hm (k := 3) rfl
  obtain ⟨d, hd, gd, cd⟩ := cell_of hm (k := 4) rfl
  simp only [SV.to, hc, Option.some.injEq] at hx
  subst hx
  refine ⟨c, [c, f, d], rfl, ⟨c, f, d, none, 0, rfl, rfl, cell_p hf (cc 1 _ rfl), cell_c (cc 2 _ rfl), cell_c (cc 3 _ rfl), cell_c (cc 4 _ rfl), cell_c (cc 5 _ rfl), cell_c (cc 6 _ rfl), cell_c (cc 9 _ rfl), cell_c (cc 10 _ rfl), cell_c (cc 11 _ rfl), cell_c (cc 12 _ rfl), cell_p hd (cf 0 _ rfl), cell_c (cd 0 _ rfl)⟩, ?_, hm.keeps.below⟩
  intro k hk
  simp only [List.not_mem_nil, false_or] at gc gf gd
  simp only [List.mem_cons, List.not_mem_nil, or_false] at hk
  rcases hk with rfl | rfl | rfl <;> assumption
theorem path_new {w : World} {cs : Array Value} {t : TypeId} {r : PRow} (hp : r.p = w.heap.size) (h0 : cs[0]? = some (.int .i64 r.x)) (h1 : cs[1]? = some (.int .i64 r.y)) (h2 : cs[2]? = some (.int .i64 r.st)) (h3 : cs[3]? = some (.int .i64 r.pr)) (h5 : cs[5]? = some r.ctl) : PathAt (w.alloc (.cells cs t)) r := by
  have h := own_new' w cs t hp
  exact ⟨(h.2.1 0).trans h0, (h.2.1 1).trans h1, (h.2.1 2).trans h2, (h.2.1 3).trans h3, (h.2.1 5).trans h5, h.2.2 2⟩
end Go.Proofs.Ytenngklohffoaaa
