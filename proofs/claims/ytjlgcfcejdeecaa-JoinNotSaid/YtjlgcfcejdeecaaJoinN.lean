/- Who says another tag is not let in: the law, walked. No conditions. -/
import Derived.Test.YtjlgcfcejdeecaaJoinF
namespace Go.Proofs.Ytjlgcfcejdeecaa
set_option linter.unusedVariables false
set_option linter.unusedSimpArgs false
open Go.RowKit Sym Sha Go.ChangeShapes Go.WideShapes Go.ChangeMaps

def muEq (m : Mu) (x : ByteArray) : Bool := decide (m.1 = 5) && (decide (m.2 = 0) && (decide (m.3 = 0) && (decide (m.4 = 0) && (decide (m.5 = 0) && (decide (m.6 = 0) && (decide (m.7 = x) && true))))))
/-- is the first tag the right one? -/
def letB (n : Nat) (g : Nat → Mu) (x : ByteArray) : Bool := findB n g 5 && muEq (findM n g 5) x
def letS (n : Nat) (g : Nat → Mu) (x a : ByteArray) : ByteArray := if letB n g x = true then a else ⟨⟨[]⟩⟩
def letE (n : Nat) (g : Nat → Mu) (x : ByteArray) : Int := if findB n g 5 = true then (if muEq (findM n g 5) x = true then 0 else 14) else 8
theorem join_let (n : Nat) (g : Nat → Mu) (hn : n ≤ maxLen) (key : ByteArray) (tok x y : Int) (a b : ByteArray) (ha : a.size ≤ 1000) (hb : b.size ≤ 1000) (f t : Int) (v : Value) (w : World) (hv : ∀ B, BlkSat B w v (.row n 7 fun i j => (g i).c j)) :
    Calls Try.prog 17 #[.agg #[.int .i64 2, .string key, .int .i64 tok, .int .i64 x, .int .i64 y], .agg #[.string a, .string b], .agg #[.int .i64 f, .int .i64 t], v] w fun e w' => e = .returned (.tuple #[.agg #[.string (letS n g (tagP a b (joinText 0 f t x y)) a), .string (letS n g (tagP a b (joinText 0 f t x y)) b)], .int .i64 (letE n g (tagP a b (joinText 0 f t x y)))]) ∧ Below w.heap.size w w' := by
  refine calls_runO (both_ok SJoin1_ok (FJoin2_ok SJoin1_ok)) follows Try.func17 (by kernel_rfl) (by kernel_rfl) (noloops (by kernel_rfl)) (let_run n g key tok x y a b f t) ?_ (mem_row (hv [v])) rfl
  have hall : AllMu n fun i j => (g i).c j := fun i _ j hj => by
    match j, hj with
    | 0, _ => rfl
    | 1, _ => rfl
    | 2, _ => rfl
    | 3, _ => rfl
    | 4, _ => rfl
    | 5, _ => rfl
    | 6, _ => rfl
  have hmu : (muF fun i j => (g i).c j) = g := rfl
  rw [hmu]
  refine ⟨(fun h => by cases h), fun _ => ⟨fun _ => ⟨⟨hn, hall⟩, ?_⟩, (fun h => by cases h)⟩⟩
  unfold letS letE letB muEq
  cases hf : findB n g 5
  · exact ⟨fun _ => rfl, (fun h => by cases h)⟩
  · refine ⟨(fun h => by cases h), fun _ => ⟨⟨ha, hb⟩, fun h => ?_, fun h => ?_⟩⟩
    · rw [Bool.not_eq_true'] at h
      rw [h]; rfl
    · rw [Bool.not_eq_false'] at h
      rw [h]; rfl
def fLet : List SV → List Blk → Option (List Prop × Value)
  | [.v (.agg ⟨[.int .i64 way, .string key, .int .i64 tok, .int .i64 x, .int .i64 y]⟩), .v (.agg ⟨[.string a, .string b]⟩), .v (.agg ⟨[.int .i64 f, .int .i64 t]⟩), s], H => match rowIn 7 H s with
    | some (n, fr) => some ([way = 2 ∧ n ≤ maxLen ∧ AllMu n fr ∧ a.size ≤ 1000 ∧ b.size ≤ 1000], .tuple #[.agg #[.string (letS n (muF fr) (tagP a b (joinText 0 f t x y)) a), .string (letS n (muF fr) (tagP a b (joinText 0 f t x y)) b)], .int .i64 (letE n (muF fr) (tagP a b (joinText 0 f t x y)))])
    | none => none
  | _, _ => none
theorem fLet_ok : ReadOk Try.prog 17 fLet := by
  intro ss H p v h bs B w vs hm hv hp
  unfold fLet at h
  split at h
  · rename_i way key tok x y a b f t s
    split at h
    · rename_i n fr hr
      simp only [Option.some.injEq, Prod.mk.injEq] at h
      obtain ⟨rfl, rfl⟩ := h
      obtain ⟨rfl, h1, h2, h3, h4⟩ := hp _ (List.mem_cons_self ..)
      obtain ⟨x0, r0, e0, v0, rfl⟩ := tos_cons hv
      obtain ⟨x1, r1, e1, v1, rfl⟩ := tos_cons v0
      obtain ⟨x2, r2, e2, v2, rfl⟩ := tos_cons v1
      obtain ⟨x3, r3, e3, v3, rfl⟩ := tos_cons v2
      obtain rfl := tos_nil v3
      simp only [SV.to, Option.some.injEq] at e0 e1 e2
      subst e0 e1 e2
      exact join_let n (muF fr) h1 key tok x y a b h3 h4 f t x3 w (fun B' => row_congr (rowIn_ok hm e3 hr B') (fun i j hi hj => h2 i hi j hj))
    · cases h
  · cases h
/-- what the places from c on say -/
def rB (n : Nat) (g : Nat → Mu) (x : ByteArray) (c : Nat) : Bool := if Nat.blt (firstOf (isKind g 5) (n - c) c) n = true then muEq (g (firstOf (isKind g 5) (n - c) c)) x else false
theorem rB_step (n : Nat) (g : Nat → Mu) (x : ByteArray) (c : Nat) (h : c < n) : rB n g x c = if (g c).kind = 5 then muEq (g c) x else rB n g x (c + 1) := by
  unfold rB
  obtain ⟨k, hk⟩ : ∃ k, n - c = k + 1 := ⟨n - c - 1, by omega⟩
  rw [hk, show n - (c + 1) = k by omega]
  by_cases h5 : (g c).kind = 5
  · have e : firstOf (isKind g 5) (k + 1) c = c := by simp only [firstOf, show isKind g 5 c = true from decide_eq_true h5, cond_true]
    rw [e, if_pos h5, if_pos (by rw [Nat.blt_eq]; exact h)]
  · have e : firstOf (isKind g 5) (k + 1) c = firstOf (isKind g 5) k (c + 1) := by simp only [firstOf, show isKind g 5 c = false from decide_eq_false h5, cond_false]
    rw [e, if_neg h5]
theorem rB_end (n : Nat) (g : Nat → Mu) (x : ByteArray) : rB n g x n = false := by
  unfold rB
  rw [Nat.sub_self]
  rw [if_neg]
  rw [Nat.blt_eq]; exact Nat.lt_irrefl _
theorem rB_zero (n : Nat) (g : Nat → Mu) (x : ByteArray) : rB n g x 0 = letB n g x := by
  unfold rB letB findM
  rw [Nat.sub_zero]
  show (if findB n g 5 = true then _ else _) = _
  cases h : findB n g 5
  · rfl
  · rw [if_pos rfl, Bool.true_and, if_pos rfl]; rfl
def tTrue29 : List Value → Option (List Prop × Value) | [] => some ([], .bool true) | _ => none
def FNot : LTab := addR 17 fLet FJoin0
theorem FNot_ok : LOk Try.prog FNot := addR_ok FJoin0_ok (by kernel_rfl) fLet_ok
abbrev CNot (P : Program) (fKnown fOurs : Func) : Cfg := bothM P (addS 14 tTrue29 (SJoin1 P fKnown fOurs)) FNot [17, 15] [] [(7, [3, 4, 6, 9, 10, 11, 12, 13])]
def jN (n : Nat) (g : Nat → Mu) (key : ByteArray) (tok x y : Int) (wa wb : ByteArray) (f t : Int) (a b : ByteArray) (qa qb : ByteArray) (e : Int) (r : Bool) (i : Int) : St := ⟨[(3, some (.ref 0)), (4, some (.ptr 1 0)), (6, some (.ptr 3 0)), (9, some (.v (.string a))), (10, some (.v (.string b))), (11, some (.ptr 4 0)), (12, some (.ptr 5 0)), (13, some (.v (.int .i64 e))), (14, some (.v (.bool r))), (15, some (.v (.int .i64 i)))],
  [.row n 7 (fun i j => (g i).c j), .own [.v (.int .i64 2), .v (.string key), .v (.int .i64 tok), .v (.int .i64 x), .v (.int .i64 y)], .own [.v (.string wa), .v (.string wb)], .own [.v (.int .i64 f), .v (.int .i64 t)], .own [.v (.string a), .v (.string b)], .own [.v (.string qa), .v (.string qb)]]⟩
abbrev keepN : List Nat := [3, 4, 6, 9, 10, 11, 12, 13, 14, 15]
set_option maxRecDepth 100000 in
theorem jN_round (n : Nat) (g : Nat → Mu) (key : ByteArray) (tok x y : Int) (wa wb : ByteArray) (f t : Int) (a b : ByteArray) (qa qb : ByteArray) (e : Int) (r : Bool) (i : Int) : roundM Try.prog (CNot Try.prog Try.f33 Try.f18) noL Try.f3.ntmps 0 (loopAt Try.f3 0) 6 keepN [] [] (jN n g key tok x y wa wb f t a b qa qb e r i) = T.ite (decide (i ≥ (0 : Int))) (T.need ((0 : Int) ≤ i ∧ i < (↑n : Int)) (T.need (i.toNat < n) (T.ite (decide ((g i.toNat).1 = (5 : Int))) (T.need ((0 : Int) ≤ i ∧ i < (↑n : Int)) (T.need (i.toNat < n) (T.need (a.size ≤ (1000 : Nat) ∧ b.size ≤ (1000 : Nat)) (T.leaf (Ex.normal, St.mk [((3 : Nat), some (SV.ref (0 : Nat))), ((4 : Nat), some (SV.ptr (1 : Nat) (0 : Nat))), ((6 : Nat), some (SV.ptr (3 : Nat) (0 : Nat))), ((9 : Nat), some (SV.v (Value.string a))), ((10 : Nat), some (SV.v (Value.string b))), ((11 : Nat), some (SV.ptr (4 : Nat) (0 : Nat))), ((12 : Nat), some (SV.ptr (5 : Nat) (0 : Nat))), ((13 : Nat), some (SV.v (Value.int IntKind.i64 e))), ((14 : Nat), some (SV.v (Value.bool (decide ((g i.toNat).1 = (5 : Int)) && (decide ((g i.toNat).2 = (0 : Int)) && (decide ((g i.toNat).3 = (0 : Int)) && (decide ((g i.toNat).4 = (0 : Int)) && (decide ((g i.toNat).5 = (0 : Int)) && (decide ((g i.toNat).6 = (0 : Int)) && (decide ((g i.toNat).7 = tagR a b (joinText (0 : Int) f t x y)) && true)))))))))), ((15 : Nat), some (SV.v (Value.int IntKind.i64 (IntKind.i64.wrap (i - (1 : Int))))))] [Blk.row n (7 : Nat) fun i j => (g i).c j, Blk.own [SV.v (Value.int IntKind.i64 (2 : Int)), SV.v (Value.string key), SV.v (Value.int IntKind.i64 tok), SV.v (Value.int IntKind.i64 x), SV.v (Value.int IntKind.i64 y)], Blk.own [SV.v (Value.string wa), SV.v (Value.string wb)], Blk.own [SV.v (Value.int IntKind.i64 f), SV.v (Value.int IntKind.i64 t)], Blk.own [SV.v (Value.string a), SV.v (Value.string b)], Blk.own [SV.v (Value.string qa), SV.v (Value.string qb)]]))))) (T.leaf (Ex.normal, St.mk [((3 : Nat), some (SV.ref (0 : Nat))), ((4 : Nat), some (SV.ptr (1 : Nat) (0 : Nat))), ((6 : Nat), some (SV.ptr (3 : Nat) (0 : Nat))), ((9 : Nat), some (SV.v (Value.string a))), ((10 : Nat), some (SV.v (Value.string b))), ((11 : Nat), some (SV.ptr (4 : Nat) (0 : Nat))), ((12 : Nat), some (SV.ptr (5 : Nat) (0 : Nat))), ((13 : Nat), some (SV.v (Value.int IntKind.i64 e))), ((14 : Nat), some (SV.v (Value.bool r))), ((15 : Nat), some (SV.v (Value.int IntKind.i64 (IntKind.i64.wrap (i - (1 : Int))))))] [Blk.row n (7 : Nat) fun i j => (g i).c j, Blk.own [SV.v (Value.int IntKind.i64 (2 : Int)), SV.v (Value.string key), SV.v (Value.int IntKind.i64 tok), SV.v (Value.int IntKind.i64 x), SV.v (Value.int IntKind.i64 y)], Blk.own [SV.v (Value.string wa), SV.v (Value.string wb)], Blk.own [SV.v (Value.int IntKind.i64 f), SV.v (Value.int IntKind.i64 t)], Blk.own [SV.v (Value.string a), SV.v (Value.string b)], Blk.own [SV.v (Value.string qa), SV.v (Value.string qb)]]))))) (T.leaf (Ex.exit (0 : Nat), St.mk [((3 : Nat), some (SV.ref (0 : Nat))), ((4 : Nat), some (SV.ptr (1 : Nat) (0 : Nat))), ((6 : Nat), some (SV.ptr (3 : Nat) (0 : Nat))), ((9 : Nat), some (SV.v (Value.string a))), ((10 : Nat), some (SV.v (Value.string b))), ((11 : Nat), some (SV.ptr (4 : Nat) (0 : Nat))), ((12 : Nat), some (SV.ptr (5 : Nat) (0 : Nat))), ((13 : Nat), some (SV.v (Value.int IntKind.i64 e))), ((14 : Nat), some (SV.v (Value.bool r))), ((15 : Nat), some (SV.v (Value.int IntKind.i64 i)))] [Blk.row n (7 : Nat) fun i j => (g i).c j, Blk.own [SV.v (Value.int IntKind.i64 (2 : Int)), SV.v (Value.string key), SV.v (Value.int IntKind.i64 tok), SV.v (Value.int IntKind.i64 x), SV.v (Value.int IntKind.i64 y)], Blk.own [SV.v (Value.string wa), SV.v (Value.string wb)], Blk.own [SV.v (Value.int IntKind.i64 f), SV.v (Value.int IntKind.i64 t)], Blk.own [SV.v (Value.string a), SV.v (Value.string b)], Blk.own [SV.v (Value.string qa), SV.v (Value.string qb)]])) := by kernel_rfl
end Go.Proofs.Ytjlgcfcejdeecaa
