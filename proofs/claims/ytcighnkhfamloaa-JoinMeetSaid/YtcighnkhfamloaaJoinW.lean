/- Joining over options that are listed: all functions in their callers' places; the anchor. No conditions. -/
import Derived.Test.YtcighnkhfamloaaJoinW1
namespace Go.Proofs.Ytcighnkhfamloaa
set_option linter.unusedVariables false
set_option linter.unusedSimpArgs false
open Go.RowKit Sym Sha Go.ChangeShapes Go.WideShapes Go.ChangeMaps

theorem join_find (n : Nat) (g : Nat → Mu) (kind : Int) (hn : n ≤ maxLen) (v : Value) (w : World) (hv : ∀ B, BlkSat B w v (.row n 7 fun i j => (g i).c j)) : Calls Try.prog 86 #[v, .int .i64 kind] w fun e w' => e = .returned (.tuple #[(findM n g kind).v, .bool (findB n g kind)]) ∧ Below w.heap.size w w' := by
  have hall : AllMu n fun i j => (g i).c j := fun i _ j hj => by
    match j, hj with
    | 0, _ => rfl
    | 1, _ => rfl
    | 2, _ => rfl
    | 3, _ => rfl
    | 4, _ => rfl
    | 5, _ => rfl
    | 6, _ => rfl
  refine (fFind_ok [.ref 0, .v (.int .i64 kind)] [.row n 7 fun i j => (g i).c j] _ rfl [] [v] w [v, .int .i64 kind] (mem_row (hv [v])) rfl (fun r => r.1 = .v (.tuple #[(findM n g kind).v, .bool (findB n g kind)])) ⟨⟨hn, hall⟩, rfl⟩).mono ?_
  rintro e w' ⟨s, H', B', x, rfl, _, rfl, hx, hm'⟩
  simp only [SV.to, Option.some.injEq] at hx
  exact ⟨by rw [hx], hm'.keeps.below⟩
/-- where the first one of a kind is, is known -/
def fFindH (h : Int → Option Nat) : List SV → List Blk → Option (T (SV × List Blk))
  | [s, .v (.int .i64 kind)], H => match rowIn 7 H s with
    | some (n, fr) => (match h kind with
      | some i => some (.need (n ≤ maxLen ∧ AllMu n fr ∧ i < n ∧ findE n (muF fr) kind = i) (.leaf (.tup [.v (.agg #[fr i 0, fr i 1, fr i 2, fr i 3, fr i 4, fr i 5, fr i 6]), .tt], H)))
      | none => some (.need (n ≤ maxLen ∧ AllMu n fr ∧ findE n (muF fr) kind = n) (.leaf (.tup [.v mu0.v, .ff], H))))
    | none => none
  | _, _ => none
theorem fFindH_ok (h : Int → Option Nat) : EntryOk Try.prog 86 (fFindH h) := by
  intro ss H t ht bs B w vs hm hv Qs hq
  unfold fFindH at ht
  split at ht
  · rename_i s kind
    obtain ⟨x0, r0, e0, v0, rfl⟩ := tos_cons hv
    obtain ⟨x1, r1, e1, v1, rfl⟩ := tos_cons v0
    obtain rfl := tos_nil v1
    simp only [SV.to, Option.some.injEq] at e1
    subst e1
    split at ht
    · rename_i n fr hr
      have key := fun hn (ha : AllMu n fr) => join_find n (muF fr) kind hn x0 w (fun B' => row_congr (rowIn_ok hm e0 hr B') (fun i j hi hj => ha i hi j hj))
      split at ht
      · rename_i i _
        simp only [Option.some.injEq] at ht
        subst ht
        obtain ⟨⟨hn, ha, hi, he⟩, hq⟩ := hq
        have hb : findB n (muF fr) kind = true := by rw [findB_iff, he]; exact hi
        have hM : findM n (muF fr) kind = muF fr i := by unfold findM; rw [if_pos hb, he]
        have hv : (muF fr i).v = .agg #[fr i 0, fr i 1, fr i 2, fr i 3, fr i 4, fr i 5, fr i 6] := by
          rw [ha i hi 0 (by omega), ha i hi 1 (by omega), ha i hi 2 (by omega), ha i hi 3 (by omega), ha i hi 4 (by omega), ha i hi 5 (by omega), ha i hi 6 (by omega)]
          rfl
        refine (key hn ha).mono ?_
        rintro e w' ⟨rfl, hbw⟩
        exact ⟨_, H, B, _, hq, List.prefix_refl _, rfl, by rw [hb, hM, hv]; rfl, hm.below hbw⟩
      · simp only [Option.some.injEq] at ht
        subst ht
        obtain ⟨⟨hn, ha, he⟩, hq⟩ := hq
        have hb : findB n (muF fr) kind = false := by rw [← Bool.not_eq_true, findB_iff, he]; omega
        have hM : findM n (muF fr) kind = mu0 := by unfold findM; rw [hb, if_neg (by decide)]
        refine (key hn ha).mono ?_
        rintro e w' ⟨rfl, hbw⟩
        exact ⟨_, H, B, _, hq, List.prefix_refl _, rfl, by rw [hb, hM]; rfl, hm.below hbw⟩
    · cases ht
  · cases ht
def fCapH (b : Bool) : List SV → List Blk → Option (T (SV × List Blk))
  | [s], H => match rowIn 7 H s with
    | some (n, fr) => some (.need (n ≤ maxLen ∧ AllMu n fr ∧ capB n (muF fr) = b) (.leaf (bif b then .tt else .ff, H)))
    | none => none
  | _, _ => none
theorem fCapH_ok (b : Bool) : EntryOk Try.prog 87 (fCapH b) := by
  intro ss H t ht bs B w vs hm hv Qs hq
  unfold fCapH at ht
  split at ht
  · obtain ⟨x0, r0, e0, v0, rfl⟩ := tos_cons hv
    obtain rfl := tos_nil v0
    split at ht
    · rename_i n fr hr
      simp only [Option.some.injEq] at ht
      subst ht
      obtain ⟨⟨hn, ha, hb⟩, hq⟩ := hq
      refine (join_capable n (muF fr) hn x0 w (fun B' => row_congr (rowIn_ok hm e0 hr B') (fun i j hi hj => ha i hi j hj))).mono ?_
      rintro e w' ⟨rfl, hbw⟩
      exact ⟨_, H, B, _, hq, List.prefix_refl _, rfl, by rw [hb]; cases b <;> rfl, hm.below hbw⟩
    · cases ht
  · cases ht
abbrev XL := List (Nat × Spot × List Int)
abbrev Hint := Int → Option Nat
/-- which way it is, and what is found, in each function -/
structure XS where
  ask : List Int
  askedH : Hint
  askedC : Bool
  answer : List Int
  heard : XL
  heardH : Hint
  heardC : Bool
  greet : List Int
  letX : XL
  letH : Hint
  first : XL
def wayAt (t : Nat) (l : List Int) : XL := [(1, .slot t [], l)]
def FV0 (h : Hint) (b : Bool) : LTab := addF 87 (fCapH b) (addF 86 (fFindH h) noF)
theorem FV0_ok (h : Hint) (b : Bool) : LOk Try.prog (FV0 h b) := addF_ok (addF_ok noF_ok (by kernel_rfl) (fFindH_ok h)) (by kernel_rfl) (fCapH_ok b)
def FV1 (P : Program) (S : Tab) (x : XS) (fFirst : Func) : LTab := addT 92 (trimE (inl P (bothX P S (FV0 x.letH false) [86] x.first) noL fFirst)) (FV0 x.letH false)
theorem FV1_ok {S : Tab} (hS : TabOk Try.prog S) (x : XS) : LOk Try.prog (FV1 Try.prog S x Try.f92) := addT_ok (FV0_ok _ _) (by kernel_rfl) (trimE_ok (inl_ok (bothX_ok hS (FV0_ok _ _)) follows Try.func92 (by kernel_rfl) (by kernel_rfl) (noloops (by kernel_rfl))))
def FV2 (P : Program) (S : Tab) (x : XS) (fFirst fLet fHeard fAsked : Func) : LTab := addT 23 (trimE (inl P (both P S (FV0 x.askedH x.askedC) [86, 87]) noL fAsked)) <| addT 27 (trimE (inl P (bothX P S (FV0 x.heardH x.heardC) [86, 87] x.heard) noL fHeard)) <|
  addT 29 (trimE (inl P (bothX P S (FV1 P S x fFirst) [86, 92] x.letX) noL fLet)) (FV1 P S x fFirst)
theorem FV2_ok {S : Tab} (hS : TabOk Try.prog S) (x : XS) : LOk Try.prog (FV2 Try.prog S x Try.f92 Try.f29 Try.f27 Try.f23) :=
  addT_ok (addT_ok (addT_ok (FV1_ok hS x) (by kernel_rfl) (trimE_ok (inl_ok (bothX_ok hS (FV1_ok hS x)) follows Try.func29 (by kernel_rfl) (by kernel_rfl) (noloops (by kernel_rfl)))))
    (by kernel_rfl) (trimE_ok (inl_ok (bothX_ok hS (FV0_ok _ _)) follows Try.func27 (by kernel_rfl) (by kernel_rfl) (noloops (by kernel_rfl)))))
    (by kernel_rfl) (trimE_ok (inl_ok (both_ok hS (FV0_ok _ _)) follows Try.func23 (by kernel_rfl) (by kernel_rfl) (noloops (by kernel_rfl))))
def FV3 (P : Program) (S : Tab) (x : XS) (fFirst fLet fHeard fAsked fAsk fAnswer fGreet : Func) : LTab := addT 21 (inl P (bothX P S noF [] (wayAt 6 x.ask)) noL fAsk) <| addT 28 (inl P (bothX P S noF [] (wayAt 8 x.answer)) noL fAnswer) <| addT 30 (inl P (bothX P S noF [] (wayAt 10 x.greet)) noL fGreet) (FV2 P S x fFirst fLet fHeard fAsked)
theorem FV3_ok {S : Tab} (hS : TabOk Try.prog S) (x : XS) : LOk Try.prog (FV3 Try.prog S x Try.f92 Try.f29 Try.f27 Try.f23 Try.f21 Try.f28 Try.f30) :=
  addT_ok (addT_ok (addT_ok (FV2_ok hS x) (by kernel_rfl) (inl_ok (bothX_ok hS noF_ok) follows Try.func30 (by kernel_rfl) (by kernel_rfl) (noloops (by kernel_rfl))))
    (by kernel_rfl) (inl_ok (bothX_ok hS noF_ok) follows Try.func28 (by kernel_rfl) (by kernel_rfl) (noloops (by kernel_rfl))))
    (by kernel_rfl) (inl_ok (bothX_ok hS noF_ok) follows Try.func21 (by kernel_rfl) (by kernel_rfl) (noloops (by kernel_rfl)))
abbrev fsV : List Nat := [86, 87, 92, 29, 27, 23, 21, 28, 30]
abbrev CV (P : Program) (S : Tab) (x : XS) (fFirst fLet fHeard fAsked fAsk fAnswer fGreet : Func) (xs : XL) (ms : List (Nat × List Nat)) : Cfg := bothM P S (FV3 P S x fFirst fLet fHeard fAsked fAsk fAnswer fGreet) fsV xs ms
/-- a further path, all found -/
def hMore : Hint := fun k => match k with | 1 => some 0 | 5 => some 1 | _ => none
def hFst : Hint := fun k => match k with | 1 => some 0 | 5 => some 0 | 3 => some 0 | _ => none
def xMore : XS := ⟨[2], hFst, false, [2], [(1, .slot 17 [], [2]), (13, .slot 69 [], [0])], hMore, false, [2], [(1, .slot 13 [], [2]), (8, .slot 38 [], [0])], hFst, []⟩
def xe0 : XL := [(2, .slot 8 [], [0])]
end Go.Proofs.Ytcighnkhfamloaa
