/- Sums with a key: of slices whose texts are known. No conditions. -/
import Derived.Test.YtcighnkhfamloaaMacE
namespace Go.Proofs.Ytcighnkhfamloaa
set_option linter.unusedVariables false
set_option linter.unusedSimpArgs false
open Go.RowKit Sym Sha Go.ChangeShapes Go.WideShapes Go.ChangeMaps

def strsL : List Value → Option (List ByteArray)
  | [] => some []
  | .string s :: l => (match strsL l with | some m => some (s :: m) | none => none)
  | _ => none
theorem strsL_eq : ∀ {xs : List Value} {l : List ByteArray}, strsL xs = some l → xs = l.map .string
  | [], l, h => by simp only [strsL, Option.some.injEq] at h; subst h; rfl
  | x :: xs, l, h => by
    cases x with
    | string s =>
      simp only [strsL] at h
      split at h
      · rename_i m hm
        simp only [Option.some.injEq] at h
        subst h
        rw [strsL_eq hm]; rfl
      · cases h
    | _ => simp [strsL] at h
def catA : List ByteArray → ByteArray
  | [] => ⟨⟨[]⟩⟩
  | s :: l => s ++ catA l
def catL : List ByteArray → ByteArray
  | [] => ⟨⟨[]⟩⟩
  | [s] => s
  | s :: l => s ++ catL l
theorem catL_eq : ∀ l, catL l = catA l
  | [] => rfl
  | [s] => (app_nil s).symm
  | s :: t :: l => by
    show s ++ catL (t :: l) = s ++ catA (t :: l)
    rw [catL_eq (t :: l)]
theorem catA_snoc : ∀ (l : List ByteArray) (s : ByteArray), catA (l ++ [s]) = catA l ++ s
  | [], s => (app_nil s).trans (nil_app s).symm
  | t :: l, s => by
    show t ++ catA (l ++ [s]) = t ++ catA l ++ s
    rw [catA_snoc l s, ByteArray.append_assoc]
theorem catR_list (l : List ByteArray) (g : Nat → ByteArray) : ∀ n, n ≤ l.length → (∀ i (h : i < l.length), g i = l[i]) → catR g n = catA (l.take n)
  | 0, _, _ => rfl
  | n + 1, h, e => by
    show catR g n ++ g n = _
    rw [catR_list l g n (by omega) e, List.take_succ_eq_append_getElem (by omega), catA_snoc, e n (by omega)]
def fMacV : List SV → List Blk → Option (T (SV × List Blk))
  | [.v (.string key), .ref 0], [.vec o e 1 n xs] => (match strsL xs with
    | some l => bif Nat.beq l.length n then some (.need (n ≤ maxLen ∧ key.size ≤ 1000000000000 ∧ (catL l).size ≤ 100000000000) (.leaf (.v (.string (macOf key (catL l))), [.vec o e 1 n xs]))) else none
    | none => none)
  | ss, H => fMac ss H
theorem fMacV_ok : EntryOk Try.prog 231 fMacV := by
  intro ss H t ht bs B w vs hm hv Qs hq
  unfold fMacV at ht
  split at ht
  · rename_i key o e n xs
    split at ht
    · rename_i l hl
      cases hb : Nat.beq l.length n
      · rw [hb] at ht; cases ht
      · rw [hb, cond_true, Option.some.injEq] at ht
        have hn := Nat.eq_of_beq_eq_true hb
        subst ht
        obtain ⟨⟨q1, q2, q3⟩, hq⟩ := hq
        have hx := strsL_eq hl
        have hf : ∀ i (h : i < l.length), strsF (fun i j => cellAt xs (i * 1 + j)) i = l[i] ∧ cellAt xs (i * 1 + 0) = .string l[i] := by
          intro i h
          have : cellAt xs (i * 1 + 0) = .string l[i] := by
            rw [hx]; unfold cellAt; simp [List.getD_eq_getElem?_getD, h]
          refine ⟨?_, this⟩
          show strV (cellAt xs (i * 1 + 0)) = _
          rw [this]; rfl
        have hc : catR (strsF fun i j => cellAt xs (i * 1 + j)) n = catL l := by
          rw [catR_list l _ n (by omega) (fun i h => (hf i h).1), catL_eq, List.take_of_length_le (by omega)]
        have hF : LOk Try.prog (addF 231 fMac noF) := addF_ok noF_ok (by kernel_rfl) fMac_ok
        have key2 : liftG (addF 231 fMac noF) 231 [.v (.string key), .ref 0] (fun k => [Blk.vec o e 1 n xs][k]?) 1 = some (.need (n ≤ maxLen ∧ key.size ≤ 1000000000000 ∧ (catR (strsF fun i j => cellAt xs (i * 1 + j)) n).size ≤ 100000000000 ∧ ∀ i, i < n → (fun i j => cellAt xs (i * 1 + j)) i 0 = .string (strsF (fun i j => cellAt xs (i * 1 + j)) i)) (.leaf (.v (.string (macOf key (catR (strsF fun i j => cellAt xs (i * 1 + j)) n))), ⟨[], []⟩))) := by kernel_rfl
        refine ((liftG_ok hF _ _ _ _ _ key2).2 w bs _ B w vs hm (fun k x h => h) rfl hv (fun r => Qs (r.1, [.vec o e 1 n xs]) ∧ r.2 = ⟨[], []⟩) ?_).mono ?_
        · refine ⟨⟨q1, q2, by rw [hc]; exact q3, fun i hi => ?_⟩, ?_, rfl⟩
          · obtain ⟨h1, h2⟩ := hf i (by omega)
            rw [h1]; exact h2
          · rw [hc]; exact hq
        · rintro e' w' ⟨s, ef, B', x, ⟨h1, rfl⟩, h2, h3, h4, h5⟩
          exact ⟨s, _, B', x, h1, h2, h3, h4, h5⟩
    · cases ht
  · exact fMac_ok _ _ t ht bs B w vs hm hv Qs hq
end Go.Proofs.Ytcighnkhfamloaa
