/- Small lemmas that all other texts of this claim use: what a world below a mark keeps, and how a returned value is told. -/
import Derived.Test.YtnhfhnphmjhamaaRows
import Derived.Handy
import Derived.ProofKit
import Derived.ShutString
import Derived.ChangeOld
import Derived.WalkLawsBesides
import Derived.WalkSpells
import Derived.Lib.Hide
import Derived.Deep.Light
import Derived.PlainAid
namespace Go.Proofs.Ytnhfhnphmjhamaa
open Go.RowKit

theorem bcell {W w1 : World} (hb : Below W.heap.size W w1) : (∀ b o, b < W.heap.size → w1.cell? ⟨b, o, none⟩ = W.cell? ⟨b, o, none⟩) ∧ (∀ b o, b < W.heap.size → w1.frozen? ⟨b, o, none⟩ = W.frozen? ⟨b, o, none⟩) :=
  ⟨fun b o h => hb.cell (p := ⟨b, o, none⟩) h, fun b o h => hb.frozen (p := ⟨b, o, none⟩) h⟩
theorem ret_v {u v : Value} (h : u = v) : Ending.returned u = Ending.returned v := by rw [h]
theorem below_of {w w0 w1 : World} (h0 : Below w.heap.size w w0) (hb : Below w0.heap.size w0 w1) : Below w.heap.size w w1 := h0.trans (hb.mono h0.size)
theorem below_alloc {w w0 : World} (h0 : Below w.heap.size w w0) (o : Obj) : Below w.heap.size w (w0.alloc o) := h0.alloc h0.size o
theorem below_size {w w0 : World} (h0 : Below w.heap.size w w0) : w.heap.size ≤ w0.heap.size := h0.size
end Go.Proofs.Ytnhfhnphmjhamaa
