/- Rows of texts in plain words: what they are together, and where a loop stops first. No conditions. -/
import Derived.Test.YtapogkodlempkaaPlSha
namespace Go.Proofs.Ytapogkodlempkaa
set_option linter.unusedVariables false
set_option linter.unusedSimpArgs false
open Go.RowKit Sym

/-- the first place from i on, of k, where p holds; i + k if there is none -/
def firstOf (p : Nat → Bool) : Nat → Nat → Nat
  | 0, i => i
  | k + 1, i => bif p i then i else firstOf p k (i + 1)
theorem firstOf_spec (p : Nat → Bool) : ∀ k i, i ≤ firstOf p k i ∧ firstOf p k i ≤ i + k ∧ (∀ j, i ≤ j → j < firstOf p k i → p j = false) ∧ (firstOf p k i < i + k → p (firstOf p k i) = true)
  | 0, i => ⟨Nat.le_refl _, Nat.le_refl _, fun j h1 h2 => by simp only [firstOf] at h2; omega, fun h => by simp only [firstOf] at h; omega⟩
  | k + 1, i => by
    cases hb : p i
    · have e : firstOf p (k + 1) i = firstOf p k (i + 1) := by simp only [firstOf, hb, cond_false]
      obtain ⟨h1, h2, h3, h4⟩ := firstOf_spec p k (i + 1)
      rw [e]
      refine ⟨by omega, by omega, fun j h5 h6 => ?_, fun h => h4 (by omega)⟩
      by_cases ej : j = i
      · subst ej; exact hb
      · exact h3 j (by omega) h6
    · have e : firstOf p (k + 1) i = i := by simp only [firstOf, hb, cond_true]
      rw [e]
      exact ⟨Nat.le_refl _, by omega, fun j h5 h6 => by omega, fun _ => hb⟩
/-- the first n texts, one behind the other -/
def catR (g : Nat → ByteArray) : Nat → ByteArray
  | 0 => ⟨⟨[]⟩⟩
  | n + 1 => catR g n ++ g n
theorem catR_mono (g : Nat → ByteArray) {i n : Nat} (h : i ≤ n) : (catR g i).size ≤ (catR g n).size := by
  induction n with
  | zero => obtain rfl : i = 0 := by omega
            exact Nat.le_refl _
  | succ n ih =>
    by_cases e : i = n + 1
    · subst e; exact Nat.le_refl _
    · have := ih (by omega)
      show _ ≤ (catR g n ++ g n).size
      rw [ByteArray.size_append]; omega
theorem catR_congr {g h : Nat → ByteArray} : ∀ {n : Nat}, (∀ i, i < n → g i = h i) → catR g n = catR h n
  | 0, _ => rfl
  | n + 1, e => by
    show catR g n ++ g n = catR h n ++ h n
    rw [catR_congr (fun i hi => e i (by omega)), e n (by omega)]
end Go.Proofs.Ytapogkodlempkaa
