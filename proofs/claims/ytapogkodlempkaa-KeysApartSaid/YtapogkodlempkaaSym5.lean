/- The symbolic evaluator: operations that make or write memory; regions. No conditions. -/
import Derived.Test.YtapogkodlempkaaSym4
namespace Go.Proofs.Ytapogkodlempkaa.Sym
set_option linter.unusedVariables false
set_option linter.unusedSimpArgs false
open Go.RowKit

section
variable (P : Program) (S : Tab)
def evalStore (V : View) (t : TypeId) (x y : Operand) : T (SV × Eff) :=
  match pureVal P (sizeOf t), V.val x, V.val y with
  | some n, some (.ptr k off), some s => match V.see k, cellsOf V.see s with
    | some (.own cells), some l => bif Nat.beq l.length n && Nat.ble (off + n) cells.length && l.all (oneS V.see) then .leaf (.v undef, ⟨[(k, .own (setL cells off l))], []⟩) else .stuck 40
    | _, _ => .stuck 41
  | _, _, _ => .stuck 42
end
section
variable {P : Program} {S : Tab} {N : Nat} {w0 : World} {bs : List Nat}
theorem wp_of_quietAt {o : Oper} {a : Act} {C : World → Prop} {w : World} {x : Value} {K : Act → World → Prop} {Q : Exit → Act → World → Prop} (h : o.quietAt P a C w x) (hC : C w) (hK : ∀ w', C w' → K (a.put o.dst x) w') : o.wp P a w K Q := by
  unfold Oper.quietAt at h
  unfold Oper.wp
  generalize (execOp a.eval o).run P w = r at *
  cases r with
  | ok n w' =>
    cases n <;> simp only [Oper.quietUpon] at h <;> simp only [Oper.upon]
    case value u => obtain ⟨rfl, rfl⟩ := h; exact hK _ hC
    case skip => obtain ⟨rfl, rfl⟩ := h; exact hK _ hC
    case enter f args =>
      obtain ⟨rfl, hc⟩ := h
      exact hc.mono fun e w'' ⟨he, hw''⟩ => by subst he; exact hK _ hw''
  | halt x w' => simp only [Oper.quietUpon] at h
theorem wp_value {o : Oper} {a : Act} {w w' : World} {x : Value} {K : Act → World → Prop} {Q : Exit → Act → World → Prop} (h : (execOp a.eval o).run P w = .ok (.value x) w') (hK : K (a.put o.dst x) w') : o.wp P a w K Q := by
  unfold Oper.wp; rw [h]; exact hK
theorem wp_skip' {o : Oper} {a : Act} {w w' : World} {K : Act → World → Prop} {Q : Exit → Act → World → Prop} (h : (execOp a.eval o).run P w = .ok .skip w') (hK : K (a.put o.dst undef) w') : o.wp P a w K Q := by
  unfold Oper.wp; rw [h]; exact hK
theorem oneS_to {H : List Blk} {B : List Value} {w : World} (hs : Sat H B w) {g : Nat → Option Blk} (hg : ∀ k x, g k = some x → H[k]? = some x) {s : SV} {x : Value} (h : s.to B = some x) (h1 : oneS g s = true) : x.oneCell' = true := by
  cases s with
  | v y => simp only [SV.to, Option.some.injEq] at h; subst h; exact h1
  | c y => simp only [SV.to, Option.some.injEq] at h; subst h; exact h1
  | tt => simp only [SV.to, Option.some.injEq] at h; subst h; rfl
  | ff => simp only [SV.to, Option.some.injEq] at h; subst h; rfl
  | ptr k off =>
    simp only [SV.to] at h
    split at h
    · simp only [Option.some.injEq] at h; subst h; rfl
    · cases h
  | elt k sz i off =>
    simp only [SV.to] at h
    split at h
    · simp only [Option.some.injEq] at h; subst h; rfl
    · cases h
  | ref k =>
    simp only [oneS] at h1
    split at h1
    · rename_i n sz f hk
      have hk := hg _ _ hk
      simp only [SV.to] at h
      obtain ⟨p, cap, rfl, -⟩ := hs.blk k _ _ hk h
      rfl
    · rename_i o' e sz n xs hk
      have hk := hg _ _ hk
      simp only [SV.to] at h
      have hs' : VecSat w e sz x n xs := hs.blk k _ _ hk h
      rcases hs'.view.2 with ⟨rfl, -⟩ | ⟨b, cap, rfl, -⟩ <;> rfl
    · cases h1
  | agg l' => simp [oneS] at h1
  | tup l' => simp [oneS] at h1
  | clo fn a b =>
    simp only [SV.to] at h
    split at h
    · simp only [Option.some.injEq] at h; subst h; rfl
    · cases h
  | ifc t s =>
    simp only [SV.to, Option.map_eq_some_iff] at h
    obtain ⟨v, -, rfl⟩ := h; rfl
theorem new_run (o : Obj) (w : World) : (newObj o).run P w = .ok w.heap.size (w.alloc o) := rfl
theorem storeCells_run {b off : Nat} : ∀ (l : List SV) (H : List Blk) (B : List Value) (w : World) (k i : Nat) (cells : List SV) (vs : List Value), Mem w0 bs H B w → H[k]? = some (.own cells) → B[k]? = some (.pointer (some ⟨b, 0, none⟩)) →
    SV.tos B l = some vs → off + i + l.length ≤ cells.length → (∀ x ∈ vs, x.oneCell' = true) →
    ∃ w', (storeCells ⟨b, off, none⟩ vs i).run P w = .ok () w' ∧ Mem w0 bs (H.set k (.own (setL cells (off + i) l))) B w'
  | [], H, B, w, k, i, cells, vs, hm, hk, hb, hl, hlen, h1 => by
    simp only [SV.tos, Option.some.injEq] at hl
    subst hl
    refine ⟨w, rfl, ?_⟩
    simp only [setL]
    have : H.set k (.own cells) = H := by
      obtain ⟨hlt, e⟩ := List.getElem?_eq_some_iff.1 hk
      rw [← e]; exact List.set_getElem_self hlt
    rw [this]
    exact hm
  | s :: l, H, B, w, k, i, cells, vs, hm, hk, hb, hl, hlen, h1 => by
    simp only [SV.tos] at hl
    split at hl
    · rename_i x xs g1 g2
      simp only [Option.some.injEq] at hl
      subst hl
      simp only [List.length_cons] at hlen
      have hm2 := hm.set1 hk hb (i := off + i) (by omega) g1
      have hkl : k < H.length := (List.getElem?_eq_some_iff.1 hk).1
      obtain ⟨w', hr, hm3⟩ := storeCells_run (b := b) (off := off) l _ B _ k (i + 1) (cells.set (off + i) s) xs hm2 (by rw [List.getElem?_set_self hkl]) hb g2 (by simp; omega) (fun y hy => h1 y (by simp [hy]))
      refine ⟨w', ?_, ?_⟩
      · obtain ⟨b', us, e1, e2, e3⟩ := hm.own_at hk
        rw [hb] at e1
        simp only [Option.some.injEq, Value.pointer.injEq, Addr.mk.injEq] at e1
        obtain ⟨rfl, -⟩ := e1
        have hadd : (⟨b, off, none⟩ : Addr).add i = ⟨b, off + i, none⟩ := by unfold Addr.add; split <;> simp_all
        have hlt : off + i < us.length := by rw [tos_length e2]; omega
        have hst : (store ((⟨b, off, none⟩ : Addr).add i) x).run P w = .ok () (w.setCell ⟨b, off + i, none⟩ x) := by
          rw [hadd, run_store P w _ x _ (h1 x (by simp)), e3.2.1 (off + i)]
          simp [hlt, e3.2.2]
        simp only [storeCells]
        rw [run_bind_ok hst]
        exact hr
      · rw [List.set_set] at hm3
        exact hm3
    · cases hl
end
end Go.Proofs.Ytapogkodlempkaa.Sym
