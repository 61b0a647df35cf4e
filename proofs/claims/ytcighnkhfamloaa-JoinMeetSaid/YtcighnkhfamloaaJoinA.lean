/- Options of several paths: rows of them as letters; whether arguments are great. No conditions. -/
import Derived.Test.YtcighnkhfamloaaKeysC
import Derived.Test.YtcighnkhfamloaaSymD
namespace Go.Proofs.Ytcighnkhfamloaa
set_option linter.unusedVariables false
set_option linter.unusedSimpArgs false
open Go.RowKit Sym Sha Go.ChangeShapes Go.WideShapes Go.ChangeMaps Go.Deep

structure Mu where
  kind : Int
  addr : Int
  prio : Int
  num : Int
  token : Int
  nonce : Int
  bytes : ByteArray
def Mu.c (m : Mu) : Nat → Value
  | 0 => .int .i64 m.kind
  | 1 => .int .i64 m.addr
  | 2 => .int .i64 m.prio
  | 3 => .int .i64 m.num
  | 4 => .int .i64 m.token
  | 5 => .int .i64 m.nonce
  | 6 => .string m.bytes
  | _ => undef
/-- what the cells of a row are -/
def muF (f : Nat → Nat → Value) (i : Nat) : Mu := ⟨intV (f i 0), intV (f i 1), intV (f i 2), intV (f i 3), intV (f i 4), intV (f i 5), strV (f i 6)⟩
def AllMu (n : Nat) (f : Nat → Nat → Value) : Prop := ∀ i, i < n → ∀ j, j < 7 → f i j = (muF f i).c j
set_option maxRecDepth 100000 in
theorem open_multis {H : Type} {enc : TypeId × Value → H} {W : World} {base b0 : Nat} {r : Reach} {v : Value} {d : DataW H} {p : List MemPlace} {sp : Nat → Bool} (hv : Value.okWide Try.prog W r b0 24 v) (h : DataW.Trod enc Try.prog W base sp true 24 v d p) :
    ∃ (n : Nat) (g : Nat → Mu), n ≤ maxLen ∧ (∀ i, (g i).bytes.size ≤ maxLen) ∧ ∀ B, BlkSat B W v (.row n 7 fun i j => (g i).c j) := by
  obtain ⟨len, f, h1, h2, h3⟩ := open_rows 7 (by kernel_rfl) (by omega) Try.underlying24 hv h
  have hs : ∀ i, i < len → (∀ j, j < 7 → f i j = (muF f i).c j) ∧ (muF f i).bytes.size ≤ maxLen := by
    intro i hi
    obtain ⟨fuel, x, hx⟩ := h3 i hi
    obtain ⟨xs, n, _, _, _, hlen, hg⟩ := DataW.trod_struct Try.underlying140 hx
    have ci : Try.prog.cellsOf 3 = 1 := by kernel_rfl
    have cst : Try.prog.cellsOf 9 = 1 := by kernel_rfl
    have int_at : ∀ (k : Nat) (y : DataW H × List MemPlace), DataW.trod enc Try.prog W base sp true n 3 [f i k] = some y → f i k = .int .i64 (intV (f i k)) := by
      intro k y hy
      obtain ⟨z, e, _, _⟩ := DataW.trod_int Try.underlying3 hy
      simp at e
      rw [e]; rfl
    obtain ⟨u0, hu0⟩ : ∃ u, xs[0]? = some u := ⟨_, List.getElem?_eq_getElem (by rw [hlen]; decide)⟩
    obtain ⟨u1, hu1⟩ : ∃ u, xs[1]? = some u := ⟨_, List.getElem?_eq_getElem (by rw [hlen]; decide)⟩
    obtain ⟨u2, hu2⟩ : ∃ u, xs[2]? = some u := ⟨_, List.getElem?_eq_getElem (by rw [hlen]; decide)⟩
    obtain ⟨u3, hu3⟩ : ∃ u, xs[3]? = some u := ⟨_, List.getElem?_eq_getElem (by rw [hlen]; decide)⟩
    obtain ⟨u4, hu4⟩ : ∃ u, xs[4]? = some u := ⟨_, List.getElem?_eq_getElem (by rw [hlen]; decide)⟩
    obtain ⟨u5, hu5⟩ : ∃ u, xs[5]? = some u := ⟨_, List.getElem?_eq_getElem (by rw [hlen]; decide)⟩
    obtain ⟨u6, hu6⟩ : ∃ u, xs[6]? = some u := ⟨_, List.getElem?_eq_getElem (by rw [hlen]; decide)⟩
    rw [← hg 0 _ rfl] at hu0
    rw [← hg 1 _ rfl] at hu1
    rw [← hg 2 _ rfl] at hu2
    rw [← hg 3 _ rfl] at hu3
    rw [← hg 4 _ rfl] at hu4
    rw [← hg 5 _ rfl] at hu5
    rw [← hg 6 _ rfl] at hu6
    simp [List.range_succ, ci, cst] at hu0 hu1 hu2 hu3 hu4 hu5 hu6
    have e0 := int_at 0 _ hu0
    have e1 := int_at 1 _ hu1
    have e2 := int_at 2 _ hu2
    have e3 := int_at 3 _ hu3
    have e4 := int_at 4 _ hu4
    have e5 := int_at 5 _ hu5
    obtain ⟨s, e6, _, hz⟩ := DataW.trod_string Try.underlying9 hu6
    simp at e6
    refine ⟨fun j hj => ?_, ?_⟩
    · match j, hj with
      | 0, _ => exact e0
      | 1, _ => exact e1
      | 2, _ => exact e2
      | 3, _ => exact e3
      | 4, _ => exact e4
      | 5, _ => exact e5
      | 6, _ => show f i 6 = .string (strV (f i 6)); rw [e6]; rfl
    · show (strV (f i 6)).size ≤ maxLen
      rw [e6]; exact hz
  refine ⟨len, fun i => if i < len then muF f i else ⟨0, 0, 0, 0, 0, 0, ⟨#[]⟩⟩, h2, fun i => ?_, fun B => row_congr (row_of h1 B) fun i j hi hj => ?_⟩
  · by_cases hi : i < len
    · simp only [if_pos hi]; exact (hs i hi).2
    · simp only [if_neg hi]; exact Nat.zero_le _
  · simp only [if_pos hi]; exact (hs i hi).1 j hj
def stG (n : Nat) (g : Nat → Mu) (way : Int) (key : ByteArray) (tok x y : Int) (wa wb : ByteArray) (i : Int) : St := ⟨[(2, some (.ref 0)), (3, some (.ptr 1 0)), (4, some (.ptr 2 0)), (7, some (.v (.int .i64 i)))], [.row n 7 (fun i j => (g i).c j), .own [.v (.int .i64 way), .v (.string key), .v (.int .i64 tok), .v (.int .i64 x), .v (.int .i64 y)], .own [.v (.string wa), .v (.string wb)]]⟩
set_option maxRecDepth 100000 in
theorem stG_round (n : Nat) (g : Nat → Mu) (way : Int) (key : ByteArray) (tok x y : Int) (wa wb : ByteArray) (i : Int) : roundM Try.prog (onlyS Try.prog noS) noL Try.f14.ntmps 0 (loopAt Try.f14 0) 3 [2, 3, 4, 7] [] [] (stG n g way key tok x y wa wb i) = T.ite (decide (i < (↑n : Int))) (T.ite (decide (i ≥ (20 : Int))) (T.leaf (Ex.ret, St.mk [((6 : Nat), some SV.tt), ((24 : Nat), some SV.tt), ((23 : Nat), some (SV.v (Value.tuple (Array.mk [])))), ((22 : Nat), some (SV.v (Value.tuple (Array.mk [])))), ((21 : Nat), some (SV.v (Value.tuple (Array.mk [])))), ((20 : Nat), some (SV.v (Value.tuple (Array.mk [])))), ((19 : Nat), some (SV.v (Value.tuple (Array.mk [])))), ((18 : Nat), some (SV.v (Value.tuple (Array.mk [])))), ((17 : Nat), some (SV.v (Value.tuple (Array.mk [])))), ((16 : Nat), some SV.tt), ((15 : Nat), some (SV.v (Value.bool (decide (i ≥ (20 : Int)))))), ((14 : Nat), some (SV.v (Value.int IntKind.i64 i))), ((11 : Nat), some SV.tt), ((11 : Nat), some (SV.v (Value.bool (decide (i < (↑n : Int)))))), ((10 : Nat), some (SV.v (Value.int IntKind.i64 (↑n : Int)))), ((9 : Nat), some (SV.ref (0 : Nat))), ((8 : Nat), some (SV.v (Value.int IntKind.i64 i))), ((2 : Nat), some (SV.ref (0 : Nat))), ((3 : Nat), some (SV.ptr (1 : Nat) (0 : Nat))), ((4 : Nat), some (SV.ptr (2 : Nat) (0 : Nat))), ((7 : Nat), some (SV.v (Value.int IntKind.i64 i)))] [Blk.row n (7 : Nat) fun i j => (g i).c j, Blk.own [SV.v (Value.int IntKind.i64 way), SV.v (Value.string key), SV.v (Value.int IntKind.i64 tok), SV.v (Value.int IntKind.i64 x), SV.v (Value.int IntKind.i64 y)], Blk.own [SV.v (Value.string wa), SV.v (Value.string wb)]])) (T.need ((0 : Int) ≤ i ∧ i < (↑n : Int)) (T.need (i.toNat < n) (T.ite (decide ((↑(g i.toNat).7.size : Int) > (300 : Int))) (T.leaf (Ex.ret, St.mk [((6 : Nat), some SV.tt), ((24 : Nat), some SV.tt), ((24 : Nat), some (SV.v (Value.bool (decide ((↑(g i.toNat).7.size : Int) > (300 : Int)))))), ((23 : Nat), some (SV.v (Value.bool (decide ((↑(g i.toNat).7.size : Int) > (300 : Int)))))), ((22 : Nat), some (SV.v (Value.int IntKind.i64 (↑(g i.toNat).7.size : Int)))), ((21 : Nat), some (SV.v (Value.string (g i.toNat).7))), ((20 : Nat), some (SV.elt (0 : Nat) (7 : Nat) i.toNat (6 : Nat))), ((19 : Nat), some (SV.elt (0 : Nat) (7 : Nat) i.toNat (0 : Nat))), ((18 : Nat), some (SV.v (Value.int IntKind.i64 i))), ((17 : Nat), some (SV.ref (0 : Nat))), ((16 : Nat), some SV.ff), ((15 : Nat), some (SV.v (Value.bool (decide (i ≥ (20 : Int)))))), ((14 : Nat), some (SV.v (Value.int IntKind.i64 i))), ((11 : Nat), some SV.tt), ((11 : Nat), some (SV.v (Value.bool (decide (i < (↑n : Int)))))), ((10 : Nat), some (SV.v (Value.int IntKind.i64 (↑n : Int)))), ((9 : Nat), some (SV.ref (0 : Nat))), ((8 : Nat), some (SV.v (Value.int IntKind.i64 i))), ((2 : Nat), some (SV.ref (0 : Nat))), ((3 : Nat), some (SV.ptr (1 : Nat) (0 : Nat))), ((4 : Nat), some (SV.ptr (2 : Nat) (0 : Nat))), ((7 : Nat), some (SV.v (Value.int IntKind.i64 i)))] [Blk.row n (7 : Nat) fun i j => (g i).c j, Blk.own [SV.v (Value.int IntKind.i64 way), SV.v (Value.string key), SV.v (Value.int IntKind.i64 tok), SV.v (Value.int IntKind.i64 x), SV.v (Value.int IntKind.i64 y)], Blk.own [SV.v (Value.string wa), SV.v (Value.string wb)]])) (T.leaf (Ex.normal, St.mk [((2 : Nat), some (SV.ref (0 : Nat))), ((3 : Nat), some (SV.ptr (1 : Nat) (0 : Nat))), ((4 : Nat), some (SV.ptr (2 : Nat) (0 : Nat))), ((7 : Nat), some (SV.v (Value.int IntKind.i64 (IntKind.i64.wrap (i + (1 : Int))))))] [Blk.row n (7 : Nat) fun i j => (g i).c j, Blk.own [SV.v (Value.int IntKind.i64 way), SV.v (Value.string key), SV.v (Value.int IntKind.i64 tok), SV.v (Value.int IntKind.i64 x), SV.v (Value.int IntKind.i64 y)], Blk.own [SV.v (Value.string wa), SV.v (Value.string wb)]])))))) (T.leaf (Ex.exit (0 : Nat), St.mk [((2 : Nat), some (SV.ref (0 : Nat))), ((3 : Nat), some (SV.ptr (1 : Nat) (0 : Nat))), ((4 : Nat), some (SV.ptr (2 : Nat) (0 : Nat))), ((7 : Nat), some (SV.v (Value.int IntKind.i64 i)))] [Blk.row n (7 : Nat) fun i j => (g i).c j, Blk.own [SV.v (Value.int IntKind.i64 way), SV.v (Value.string key), SV.v (Value.int IntKind.i64 tok), SV.v (Value.int IntKind.i64 x), SV.v (Value.int IntKind.i64 y)], Blk.own [SV.v (Value.string wa), SV.v (Value.string wb)]])) := by kernel_rfl
end Go.Proofs.Ytcighnkhfamloaa
