/- Sums with a key: the reference's; texts compared. No conditions. -/
import Derived.Test.YtcighnkhfamloaaMacB
namespace Go.Proofs.Ytcighnkhfamloaa
set_option linter.unusedVariables false
set_option linter.unusedSimpArgs false
open Go.RowKit Sym Sha Go.ChangeShapes Go.WideShapes Go.ChangeMaps

/-! mac.Same -/
def apart (a b : ByteArray) : Nat → UInt8
  | 0 => 0
  | i + 1 => apart a b i ||| (a.data.toList.getD i 0 ^^^ b.data.toList.getD i 0)
theorem apart_zero (a b : ByteArray) : ∀ i, apart a b i = 0 ↔ ∀ j, j < i → a.data.toList.getD j 0 = b.data.toList.getD j 0
  | 0 => ⟨fun _ j h => absurd h (Nat.not_lt_zero _), fun _ => rfl⟩
  | i + 1 => by
    show (apart a b i ||| _) = 0 ↔ _
    rw [UInt8.or_eq_zero_iff, UInt8.xor_eq_zero_iff, apart_zero a b i]
    constructor
    · rintro ⟨h1, h2⟩ j hj
      by_cases e : j = i
      · subst e; exact h2
      · exact h1 j (by omega)
    · intro h
      exact ⟨fun j hj => h j (by omega), h i (by omega)⟩
theorem apart_eq (a b : ByteArray) (h : a.size = b.size) : apart a b a.size = 0 ↔ a = b := by
  rw [apart_zero]
  constructor
  · intro hh
    apply ByteArray.ext
    apply Array.toList_inj.1
    apply List.ext_getElem
    · simpa using h
    · intro i h1 h2
      have := hh i (by simpa using h1)
      rw [List.getD_eq_getElem?_getD, List.getD_eq_getElem?_getD, List.getElem?_eq_getElem h1, List.getElem?_eq_getElem h2] at this
      exact this
  · rintro rfl j _; rfl
def LSame (P : Program) (S : Tab) (fn : Func) (a b : ByteArray) : Nat → St → Option (T (Ex × St)) :=
  addL 0 (fun st => .need (a.size ≤ maxLen ∧ a.size = b.size) (.need (st.H.length = 0) (.need (st.tidy 0 [0, 1, 5, 13, 14] [] [] = stS a b (apart a b 0).toNat (0 : Nat)) ((roundM P (onlyS P S) noL 29 0 (loopAt fn 0) 0 [0, 1, 5, 13, 14] [] [] (closeAt [] (stS a b (apart a b a.size).toNat (a.size : Nat)))).bind (lastX 0))))) noL

/-! the reference's turned -/
def turned (n : UInt8) (s : ByteArray) (i : Nat) : ByteArray := ba (Mac.turn n (s.data.toList.take i))
def LTurn (P : Program) (S : Tab) (fn : Func) (n : UInt8) : Nat → St → Option (T (Ex × St)) :=
  addL 0 (fun st => withStr st 0 fun s => .need (s.size ≤ maxLen) (.need (st.H.length = 0) (.need (st.tidy 0 [0, 1, 5, 6] [] [] = stU s n.toNat (turned n s 0) (0 : Nat)) ((roundM P (onlyS P S) noL 23 0 (loopAt fn 0) 0 [0, 1, 5, 6] [] [] (closeAt [] (stU s n.toNat (turned n s s.size) (s.size : Nat)))).bind (lastX 0))))) noL

def tTurned06 : List Value → Option (List Prop × Value) | [.string s, .int .u8 z] => some ([s.size ≤ maxLen ∧ 0 ≤ z ∧ z < 256], .string (ba (Mac.turn (UInt8.ofNat z.toNat) s.data.toList))) | _ => none
def tSame : List Value → Option (List Prop × Value) | [.string a, .string b] => some ([a.size ≤ maxLen], .bool (decide (a = b))) | _ => none
def SMac1  : Tab := SSha9
theorem SMac1_ok : TabOk Try.prog (SMac1) := SSha9_ok
/-! the reference's sum with a key -/
def stKI (k all : ByteArray) (i : Nat) : St := stK (k ++ ba (List.replicate i 0)) all
def LKey (P : Program) (S : Tab) (fn : Func) : Nat → St → Option (T (Ex × St)) :=
  addL 0 (fun st => withStr st 0 fun k => withStr st 1 fun all => .need (k.size ≤ 64) (.need (st.H.length = 0) (.need (st.tidy 0 [0, 1] [] [] = stKI k all 0) ((roundM P (onlyS P S) noL 24 0 (loopAt fn 0) 0 [0, 1] [] [] (closeAt [] (stKI k all (64 - k.size)))).bind (lastX 0))))) noL

end Go.Proofs.Ytcighnkhfamloaa
