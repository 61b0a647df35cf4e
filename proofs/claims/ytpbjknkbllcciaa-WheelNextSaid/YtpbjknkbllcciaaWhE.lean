/- Timers: contracts in the engine. No conditions. -/
import Derived.Test.YtpbjknkbllcciaaWhD
namespace Go.Proofs.Ytpbjknkbllcciaa
set_option linter.unusedVariables false
set_option linter.unusedSimpArgs false
open Go.RowKit Sym Go.Maps Go.Sort Go.Lib

theorem mapN_mem {w : World} {bs : List Nat} {B : List Value} {cells : List SV} {P : Program} {k e : TypeId} {D : DataW Unit} (hm : Mem w bs [.own cells, .ext (.smap P k e D)] B w) :
    ∃ sb b us, B = [.pointer (some ⟨sb, 0, none⟩), .map (some b)] ∧ SV.tos B cells = some us ∧ Own w sb us.toArray ∧ w.ownsMap P k (plainElem P e) b (Maps.size D) D ∧ sb ≠ b ∧ sb ∈ bs ∧ b ∈ bs := by
  obtain ⟨sb, us, e1, e2, e3⟩ := hm.own_at (k := 0) rfl
  obtain ⟨u1, hu1⟩ := hm.sat.getB (k := 1) rfl
  obtain ⟨b, rfl, hown⟩ := hm.sat.blk 1 _ u1 rfl hu1
  have x0 : ExBlk [.own cells, .ext (.smap P k e D)] B 0 sb := ⟨_, _, rfl, rfl, e1, rfl⟩
  have x1 : ExBlk [.own cells, .ext (.smap P k e D)] B 1 b := ⟨_, _, rfl, rfl, hu1, rfl⟩
  have hne : sb ≠ b := fun he => by
    have := hm.sat.sep 0 1 sb x0 (he ▸ x1)
    cases this
  refine ⟨sb, b, us, ?_, e2, e3, hown, hne, ?_, ?_⟩
  · have hl := hm.sat.len
    match B, hl, e1, hu1 with
    | [p, q], _, e1, hu1 =>
      simp only [List.getElem?_cons_zero, List.getElem?_cons_succ, Option.some.injEq] at e1 hu1
      rw [e1, hu1]
  · rcases hm.good 0 sb x0 with h | h
    · exact h
    · have := e3.1; omega
  · rcases hm.good 1 b x1 with h | h
    · exact h
    · have := hown.lt; omega
def fTurn (P : Program) : List SV → List Blk → Option (T (SV × List Blk))
  | [.ptr 0 0, .v (.int .i64 t)], [.own [.v (.int .i64 now), .ref 1], .ext (.smap P' k e D)] => bif Nat.beq k 9 && Nat.beq e 3 then
      some (.need (P' = P ∧ (0 ≤ now ∧ now ≤ 1099511627776) ∧ mSize D ≤ 1000000000) (.leaf (.ref 2, [.own [.v (.int .i64 (nowT now t)), .ref 1], .ext (.smap P' k e (delN D (dueN D (nowT now t)))), .vec false noGrow 1 (dueN D (nowT now t)) (((ordL D).take (dueN D (nowT now t))).map encStr)]))) else none
  | _, _ => none
theorem fTurn_ok : EntryOk Try.prog 10 (fTurn Try.prog) := by
  intro ss H t ht bs B w vs hm hv Qs hq
  unfold fTurn at ht
  split at ht
  · rename_i t now P' k e D
    cases hb : (Nat.beq k 9 && Nat.beq e 3)
    · rw [hb] at ht; cases ht
    · rw [hb, cond_true, Option.some.injEq] at ht
      subst ht
      rw [Bool.and_eq_true] at hb
      obtain rfl := Nat.eq_of_beq_eq_true hb.1
      obtain rfl := Nat.eq_of_beq_eq_true hb.2
      obtain ⟨⟨rfl, hnow, hmax⟩, hq⟩ := hq
      obtain ⟨sb, b, us, rfl, e2, e3, hown, hne, hs1, hs2⟩ := mapN_mem hm
      simp only [SV.tos, SV.to, List.getElem?_cons_zero, List.getElem?_cons_succ, Option.some.injEq] at e2 hv
      subst e2 hv
      refine (turn_any (t := t) e3 hne hnow.1 hnow.2 hown hmax).mono ?_
      rintro e' w' ⟨v, rfl, hT⟩
      have hbl := hown.lt
      refine ⟨_, _, [.pointer (some ⟨sb, 0, none⟩), .map (some b), v], _, hq, ⟨[v], rfl⟩, rfl, rfl, ?_⟩
      have ex : ∀ i c, ExBlk [.own [.v (.int .i64 (nowT now t)), .ref 1], .ext (.smap Try.prog 9 3 (delN D (dueN D (nowT now t)))), .vec false noGrow 1 (dueN D (nowT now t)) (((ordL D).take (dueN D (nowT now t))).map encStr)] [.pointer (some ⟨sb, 0, none⟩), .map (some b), v] i c → (i = 0 ∧ c = sb) ∨ (i = 1 ∧ c = b) ∨ (i = 2 ∧ w.heap.size ≤ c) := by
        rintro i c ⟨x, u, g1, g2, g3, g4⟩
        match i with
        | 0 => simp only [List.getElem?_cons_zero, Option.some.injEq] at g3; subst g3; simp only [blockOf, Option.some.injEq] at g4; exact .inl ⟨rfl, g4.symm⟩
        | 1 => simp only [List.getElem?_cons_zero, List.getElem?_cons_succ, Option.some.injEq] at g3; subst g3; simp only [blockOf, Option.some.injEq] at g4; exact .inr (.inl ⟨rfl, g4.symm⟩)
        | 2 => simp only [List.getElem?_cons_zero, List.getElem?_cons_succ, Option.some.injEq] at g3; subst g3; exact .inr (.inr ⟨rfl, hT.fresh c g4⟩)
        | i + 3 => simp at g1
      have hsl := e3.1
      refine ⟨⟨rfl, fun i x u h1 h2 => ?_, fun i j c h1 h2 => ?_, fun i j c h1 h2 => ?_⟩, ⟨hT.os, hT.tape, hT.output, hT.size, fun c hc hn => hT.block c hc (fun e => hn (e ▸ hs1)) (fun e => hn (e ▸ hs2))⟩, fun i c h1 => ?_⟩
      · match i with
        | 0 => simp only [List.getElem?_cons_zero, Option.some.injEq] at h1 h2; subst h1 h2; exact ⟨sb, _, rfl, rfl, hT.own⟩
        | 1 => simp only [List.getElem?_cons_zero, List.getElem?_cons_succ, Option.some.injEq] at h1 h2; subst h1 h2; exact ⟨b, rfl, owns_exact hT.map⟩
        | 2 => simp only [List.getElem?_cons_zero, List.getElem?_cons_succ, Option.some.injEq] at h1 h2; subst h1 h2; exact hT.vec
        | i + 3 => simp at h1
      · rcases ex i c h1 with ⟨a1, a2⟩ | ⟨a1, a2⟩ | ⟨a1, a2⟩ <;> rcases ex j c h2 with ⟨b1, b2⟩ | ⟨b1, b2⟩ | ⟨b1, b2⟩ <;> first | omega | (exfalso; subst a2; exact hne b2) | (exfalso; subst a2; exact hne b2.symm)
      · obtain ⟨n', sz', f', u', q, -⟩ := h2
        match j with
        | 0 => simp at q
        | 1 => simp at q
        | 2 => simp at q
        | j + 3 => simp at q
      · rcases ex i c h1 with ⟨a1, a2⟩ | ⟨a1, a2⟩ | ⟨a1, a2⟩
        · exact .inl (a2 ▸ hs1)
        · exact .inl (a2 ▸ hs2)
        · exact .inr a2
  · cases ht
/-! a timer is set -/
def setT (now t : Int) : Int := now + (if (1073741824 : Int) < (if (1 : Int) > t then 1 else t) then 1073741824 else if (1 : Int) > t then 1 else t)
def setD (now : Int) (D : DataW Unit) (s : ByteArray) (t : Int) : DataW Unit := if mHas D s = false ∧ 64 ≤ mSize D then D else mPut D s (setT now t)
def fSet (P : Program) : List SV → List Blk → Option (T (SV × List Blk))
  | [.ptr 0 0, .v (.string s), .v (.int .i64 t)], [.own [.v (.int .i64 now), .ref 1], .ext (.smap P' k e D)] => bif Nat.beq k 9 && Nat.beq e 3 then
      some (.need (P' = P ∧ (0 ≤ now ∧ now ≤ 1099511627776) ∧ mSize D < 1000000000 ∧ s.size ≤ 9223372036854775807) (.leaf (.v (.tuple #[]), [.own [.v (.int .i64 now), .ref 1], .ext (.smap P' k e (setD now D s t))]))) else none
  | _, _ => none
theorem setT_bd (now t : Int) (h : 0 ≤ now ∧ now ≤ 1099511627776) : now < setT now t ∧ setT now t ≤ now + 1073741824 := by
  unfold setT; split <;> (try split) <;> omega
theorem fSet_ok : EntryOk Try.prog 7 (fSet Try.prog) := by
  intro ss H t ht bs B w vs hm hv Qs hq
  unfold fSet at ht
  split at ht
  · rename_i s t now P' k e D
    cases hb : (Nat.beq k 9 && Nat.beq e 3)
    · rw [hb] at ht; cases ht
    · rw [hb, cond_true, Option.some.injEq] at ht
      subst ht
      rw [Bool.and_eq_true] at hb
      obtain rfl := Nat.eq_of_beq_eq_true hb.1
      obtain rfl := Nat.eq_of_beq_eq_true hb.2
      obtain ⟨⟨rfl, hnow, hmax, hsz⟩, hq⟩ := hq
      refine trimT_ok CWh0_ok follows Try.func7 (by kernel_rfl) (lexAllF_ok (by kernel_rfl)) (noloops (by kernel_rfl)) (set_run now t s D) hm hv ?_
      have hbd := setT_bd now t hnow
      have hw : IntKind.i64.wrap (setT now t) = setT now t := w64 _ (by omega) (by omega)
      have hq : Qs (.v (.tuple #[]), [.own [.v (.int .i64 now), .ref 1], .ext (.smap Try.prog 9 3 (setD now D s t))]) := hq
      unfold setD at hq
      change T.ok Qs (.need _ (.need _ (.ite _ (.need _ (.ite _ _ (.need _ (.need (_ ∧ (decide (-9223372036854775808 ≤ IntKind.i64.wrap (setT now t)) && decide (IntKind.i64.wrap (setT now t) ≤ 9223372036854775807)) = true ∧ _) (.leaf (_, [_, .ext (.smap _ _ _ (mPut D s (IntKind.i64.wrap (setT now t))))])))))) (.need _ (.need (_ ∧ (decide (-9223372036854775808 ≤ IntKind.i64.wrap (setT now t)) && decide (IntKind.i64.wrap (setT now t) ≤ 9223372036854775807)) = true ∧ _) (.leaf (_, [_, .ext (.smap _ _ _ (mPut D s (IntKind.i64.wrap (setT now t))))])))))))
      rw [hw]
      have hwf : (decide (-9223372036854775808 ≤ setT now t) && decide (setT now t ≤ 9223372036854775807)) = true := by simp; omega
      refine t_need rfl (t_need hsz (t_ite (fun h1 => t_need rfl (t_ite (fun h2 => t_leaf ?_) fun h2 => t_need rfl (t_need ⟨hsz, hwf, hmax⟩ (t_leaf ?_)))) fun h1 => t_need rfl (t_need ⟨hsz, hwf, hmax⟩ (t_leaf ?_))))
      · rw [if_pos ⟨by simpa using h1, by have := of_decide_eq_true h2; omega⟩] at hq; exact hq
      · rw [if_neg (fun h => by have := of_decide_eq_false h2; omega)] at hq; exact hq
      · rw [if_neg (fun h => by rw [h.1] at h1; cases h1)] at hq; exact hq
  · cases ht
end Go.Proofs.Ytpbjknkbllcciaa
