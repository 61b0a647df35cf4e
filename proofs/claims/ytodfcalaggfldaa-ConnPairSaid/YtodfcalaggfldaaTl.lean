/- Trees taken apart. No conditions. -/
import Derived.Test.YtodfcalaggfldaaSymA
namespace Go.Proofs.Ytodfcalaggfldaa
set_option linter.unusedVariables false
set_option linter.unusedSimpArgs false
open Go.RowKit Sym

theorem t_need {α : Type} {p : Prop} {t : T α} {Q : α → Prop} (h : p) (ht : t.ok Q) : (T.need p t).ok Q := ⟨h, ht⟩
theorem t_ite {α : Type} {b : Bool} {t e : T α} {Q : α → Prop} (h : b = true → t.ok Q) (he : b = false → e.ok Q) : (T.ite b t e).ok Q := ⟨h, he⟩
theorem t_leaf {α : Type} {a : α} {Q : α → Prop} (h : Q a) : (T.leaf a).ok Q := h
end Go.Proofs.Ytodfcalaggfldaa
