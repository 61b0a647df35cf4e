/- A word is read into an act. No conditions. -/
import Derived.Test.YtdhdkfnmbdejbaaDoorSgI
namespace Go.Proofs.YtdhdkfnmbdejbaaDoor
set_option linter.unusedVariables false
set_option linter.unusedSimpArgs false
open Go.RowKit

def offN (c : UInt8) : Nat := if c = 120 then 2 else if c = 121 then 3 else 4
theorem u8eq_dec (c d : UInt8) : ((c.toNat : Int) == (d.toNat : Int)) = decide (c = d) := by
  rw [Bool.eq_iff_iff, beq_iff_eq, decide_eq_true_eq]
  constructor
  · intro h; exact UInt8.toNat_inj.1 (by omega)
  · intro h; rw [h]
theorem u8t {c d : UInt8} (h : c = d) : ((c.toNat : Int) == (d.toNat : Int)) = true := by rw [u8eq_dec, decide_eq_true h]
theorem u8f {c d : UInt8} (h : ¬ c = d) : ((c.toNat : Int) == (d.toNat : Int)) = false := by rw [u8eq_dec, decide_eq_false h]
theorem number_any (b : Nat) (c : UInt8) (w : World) : Calls Tryd.prog 29 #[.pointer (some ⟨b, 0, none⟩), .int .u8 (c.toNat : Int)] w fun e w' => e = .returned (.pointer (some ⟨b, offN c, none⟩)) ∧ w = w' := by
  unfold offN
  by_cases h1 : c = 120
  · have e1 : ((c.toNat : Int) == 120) = true := u8t h1
    rw [if_pos h1]
    clear h1
    go_enter Tryd.func29, Tryd.ntmps29
    go_wp2
    go_ret
    exact ⟨rfl, rfl⟩
  · have e1 : ((c.toNat : Int) == 120) = false := u8f h1
    rw [if_neg h1]
    clear h1
    by_cases h2 : c = 121
    · have e2 : ((c.toNat : Int) == 121) = true := u8t h2
      rw [if_pos h2]
      clear h2
      go_enter Tryd.func29, Tryd.ntmps29
      go_wp2
      go_ret
      exact ⟨rfl, rfl⟩
    · have e2 : ((c.toNat : Int) == 121) = false := u8f h2
      rw [if_neg h2]
      clear h2
      go_enter Tryd.func29, Tryd.ntmps29
      go_wp2
      go_ret
      exact ⟨rfl, rfl⟩
theorem set_heap_other (W : World) {b k i : Nat} {v : Value} (h : k ≠ b) : (W.setCell ⟨b, i, none⟩ v).heap[k]? = W.heap[k]? := by
  simp [World.setCell, Array.getElem?_modify, Ne.symm h]
theorem frm_set {W w1 : World} {b i : Nat} {v : Value} (h : Below W.heap.size W w1) : W.grownBy (w1.setCell ⟨b, i, none⟩ v) (some b) :=
  ⟨h.os, h.tape, h.output, by rw [World.size_setCell]; exact h.size, fun k hk hne => by
    have hn : k ≠ b := fun e => hne (by rw [e])
    rw [set_heap_other _ hn]
    exact h.block k hk⟩
/-- an act in a block of its own -/
def ActAt (W : World) (b : Nat) (a : ActP) : Prop := Own W b a.cs
theorem ActAt.at {W : World} {b : Nat} {a : ActP} (h : ActAt W b a) : W.cell? ⟨b, 0, none⟩ = some (.int .i64 a.k) ∧ W.cell? ⟨b, 1, none⟩ = some (.int .i64 a.s) ∧ W.cell? ⟨b, 2, none⟩ = some (.int .i64 a.x) ∧ W.cell? ⟨b, 3, none⟩ = some (.int .i64 a.y) ∧ W.cell? ⟨b, 4, none⟩ = some (.int .i64 a.z) ∧ W.cell? ⟨b, 5, none⟩ = some (.string a.d) ∧ (∀ j, W.frozen? ⟨b, j, none⟩ = false) :=
  ⟨h.2.1 0, h.2.1 1, h.2.1 2, h.2.1 3, h.2.1 4, h.2.1 5, h.2.2⟩
theorem ActAt.set {W : World} {b i : Nat} {a a' : ActP} {v : Value} (h : ActAt W b a) (e : a.cs.setIfInBounds i v = a'.cs) : ActAt (W.setCell ⟨b, i, none⟩ v) b a' := own_conv (own_setT h) e
/-- a word is read -/
def ReadPost (W : World) (b : Nat) (r : Option ActP) (e : Ending) (w' : World) : Prop := ∃ a', e = .returned (.bool r.isSome) ∧ ActAt w' b a' ∧ (∀ q, r = some q → a' = q) ∧ W.grownBy w' (some b)
set_option maxRecDepth 100000 in
set_option maxHeartbeats 4000000 in
theorem read_any {W : World} {b : Nat} {a : ActP} (h : ActAt W b a) (c : UInt8) (s : ByteArray) (hs : s.size ≤ 1000000) :
    Calls Tryd.prog 38 #[.pointer (some ⟨b, 0, none⟩), .int .u8 (c.toNat : Int), .string s] W fun e w' => ReadPost W b (stepA c s a) e w' := by
  by_cases h1 : c = 115
  · have e1 : ((c.toNat : Int) == 115) = true := u8t h1
    have hp : ∀ v : Value, v = .int .i64 (sideL s).1 → ActAt (W.setCell ⟨b, 1, none⟩ v) b { a with s := (sideL s).1 } := fun v hv => h.set (by subst hv; rfl)
    have hst : stepA c s a = (if (sideL s).2 then some { a with s := (sideL s).1 } else none) := by unfold stepA; rw [if_pos h1]
    obtain ⟨-, k1, -, -, -, -, kf⟩ := h.at
    have hsd := fun X => side_any s X
    clear h1 h
    obtain ⟨r, hr⟩ : ∃ r, stepA c s a = r := ⟨_, rfl⟩
    rw [hr] at hst ⊢
    generalize (sideL s).1 = n at *
    generalize (sideL s).2 = ok at *
    go_enter Tryd.func38, Tryd.ntmps38
    go_wp2_with (go_at_call 45; with_reducible refine (hsd _).mono ?_; rintro e w1 ⟨rfl, hw⟩; obtain rfl := hw)
    go_ret
    refine ⟨_, ?_, hp _ rfl, ?_, frm_set (Below.refl _ _)⟩
    · rw [hst]; cases ok <;> rfl
    · intro q hq; rw [hst] at hq; cases ok <;> simp at hq; exact hq
  · have e1 : ((c.toNat : Int) == 115) = false := u8f h1
    by_cases h2 : c = 100
    · have e2 : ((c.toNat : Int) == 100) = true := u8t h2
      have hst : stepA c s a = (bytesL s.data.toList).map fun b => { a with d := tx b } := by unfold stepA; rw [if_neg h1, if_pos h2]
      have hby := fun X => bytes_any s hs X
      clear h1 h2
      obtain ⟨r, hr⟩ : ∃ r, stepA c s a = r := ⟨_, rfl⟩
      rw [hr] at hst ⊢
      generalize bytesL s.data.toList = o at *
      go_enter Tryd.func38, Tryd.ntmps38
      go_wp2_with (go_at_call 46; (with_reducible refine (hby _).mono ?_); rintro e w1 ⟨rfl, hb⟩; have h' := own_below h hb; obtain ⟨-, -, -, -, -, k5, kf⟩ := ActAt.at h')
      go_ret
      refine ⟨{ a with d := tx (o.getD []) }, ?_, ActAt.set (a := a) h' rfl, ?_, frm_set hb⟩
      · rw [hst]; cases o <;> rfl
      · intro q hq; rw [hst] at hq; cases o <;> simp at hq; exact hq
    · have e2 : ((c.toNat : Int) == 100) = false := u8f h2
      have hst : stepA c s a = (if (numL s.data.toList).2 then some (if c = 120 then { a with x := (numL s.data.toList).1 } else if c = 121 then { a with y := (numL s.data.toList).1 } else { a with z := (numL s.data.toList).1 }) else none) := by unfold stepA; rw [if_neg h1, if_neg h2]
      have hnu := fun X => num_any s X
      have hnb := fun X => number_any b c X
      clear h1 h2
      obtain ⟨r, hr⟩ : ∃ r, stepA c s a = r := ⟨_, rfl⟩
      rw [hr] at hst ⊢
      generalize (numL s.data.toList).1 = n at *
      generalize (numL s.data.toList).2 = ok at *
      unfold offN at hnb
      have hex : ∃ (off : Nat) (a2 : ActP) (old : Value), (if c = 120 then 2 else if c = 121 then 3 else 4) = off ∧ (if c = 120 then { a with x := n } else if c = 121 then { a with y := n } else { a with z := n }) = a2 ∧ a.cs.setIfInBounds off (.int .i64 n) = a2.cs ∧ a.cs[off]? = some old := by
        by_cases q1 : c = 120
        · rw [if_pos q1, if_pos q1]; exact ⟨2, _, _, rfl, rfl, rfl, rfl⟩
        · by_cases q2 : c = 121
          · rw [if_neg q1, if_pos q2, if_neg q1, if_pos q2]; exact ⟨3, _, _, rfl, rfl, rfl, rfl⟩
          · rw [if_neg q1, if_neg q2, if_neg q1, if_neg q2]; exact ⟨4, _, _, rfl, rfl, rfl, rfl⟩
      obtain ⟨off, a2, old, ho, ha2, hset, hold⟩ := hex
      rw [ho] at hnb
      rw [ha2] at hst
      clear ho ha2
      go_enter Tryd.func38, Tryd.ntmps38
      go_wp2_with (first
        | (go_at_call 29; with_reducible refine (hnb _).mono ?_; rintro e w1 ⟨rfl, hw⟩; obtain rfl := hw)
        | (go_at_call 47; (with_reducible refine (hnu _).mono ?_); rintro e w1 ⟨rfl, hb⟩; have h' := own_below h hb; have kc := (h'.2.1 off).trans hold; have kf := h'.2.2))
      go_ret
      refine ⟨a2, ?_, ActAt.set (a := a) h' hset, ?_, frm_set hb⟩
      · rw [hst]; cases ok <;> rfl
      · intro q hq; rw [hst] at hq; cases ok <;> simp at hq; exact hq
end Go.Proofs.YtdhdkfnmbdejbaaDoor
