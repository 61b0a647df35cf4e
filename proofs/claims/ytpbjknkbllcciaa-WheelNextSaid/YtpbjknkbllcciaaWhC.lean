/- Timers: contracts and trees. No conditions. -/
import Derived.Test.YtpbjknkbllcciaaWhB
import Derived.Test.YtpbjknkbllcciaaCan
import Derived.Test.YtpbjknkbllcciaaTl
import Derived.Test.YtpbjknkbllcciaaSymH
namespace Go.Proofs.Ytpbjknkbllcciaa
set_option linter.unusedVariables false
set_option linter.unusedSimpArgs false
open Go.RowKit Sym Go.Maps Go.Sort Go.Lib

def ordL (D : DataW Unit) : List (List UInt8) := (strKeys D).mergeSort fun x y => decide (¬ ltW D y x)
theorem ordL_eq {D : DataW Unit} {rs : List (List UInt8)} (h : Ord D rs) : ordL D = rs := by
  have hp : (ordL D).Perm rs := (List.mergeSort_perm _ _).trans h.1.symm
  have hs : (ordL D).Pairwise fun x y => decide (¬ ltW D y x) = true := List.pairwise_mergeSort (fun a b c h1 h2 => by
      rw [decide_eq_true_eq] at *
      intro h3
      rcases ltW_tri D a b with h | h | h
      · exact h2 (ltW_trans h3 h)
      · exact h2 (h ▸ h3)
      · exact h1 h) (fun a b => by
      by_cases h : ltW D b a
      · have : ¬ ltW D a b := fun h' => ltW_irrefl D _ (ltW_trans h h')
        simp [this]
      · simp [h]) _
  refine hp.eq_of_pairwise (le := fun x y => ¬ ltW D y x) (fun a b _ _ h1 h2 => ?_) (hs.imp fun h => of_decide_eq_true h) (h.2.imp fun {a b} h' h'' => ltW_irrefl D a (ltW_trans h' h''))
  rcases ltW_tri D a b with h | h | h
  · exact absurd h h2
  · exact h
  · exact absurd h h1
def ordR (D : DataW Unit) : Nat → Nat → Value := fun i _ => encStr ((ordL D).getD i [])
def fOrd (P : Program) : List SV → List Blk → Option (T (SV × List Blk))
  | [.ptr 0 0], [.own [s, .ref 1], .ext (.smap P' k e D)] => bif Nat.beq k 9 && Nat.beq e 3 then some (.need (P' = P ∧ mSize D ≤ 1000000000) (.leaf (.ref 2, [.own [s, .ref 1], .ext (.smap P' k e D), .vec true 9 1 (ordL D).length ((ordL D).map encStr)]))) else none
  | _, _ => none
theorem fOrd_ok : EntryOk Try.prog 14 (fOrd Try.prog) := by
  intro ss H t ht bs B w vs hm hv Qs hq
  unfold fOrd at ht
  split at ht
  · rename_i s P' k e D
    cases hb : (Nat.beq k 9 && Nat.beq e 3)
    · rw [hb] at ht; cases ht
    · rw [hb, cond_true, Option.some.injEq] at ht
      subst ht
      rw [Bool.and_eq_true] at hb
      obtain rfl := Nat.eq_of_beq_eq_true hb.1
      obtain rfl := Nat.eq_of_beq_eq_true hb.2
      obtain ⟨⟨rfl, hmax⟩, hq⟩ := hq
      obtain ⟨sb, us, e1, e2, e3⟩ := hm.own_at (k := 0) rfl
      obtain ⟨u1, hu1⟩ := hm.sat.getB (k := 1) rfl
      obtain ⟨b, rfl, hown⟩ := hm.sat.blk 1 _ u1 rfl hu1
      obtain ⟨x0, r0, g0, v0, rfl⟩ := tos_cons hv
      obtain rfl := tos_nil v0
      simp only [SV.to, e1, Option.some.injEq] at g0
      subst g0
      obtain ⟨y0, s0, k0, l0, rfl⟩ := tos_cons e2
      obtain ⟨y1, s1, k1, l1, rfl⟩ := tos_cons l0
      obtain rfl := tos_nil l1
      simp only [SV.to, hu1, Option.some.injEq] at k1
      subst k1
      have hsb : w.cell? ⟨sb, 1, none⟩ = some (.map (some b)) := by rw [e3.2.1 1]; rfl
      refine (order_any hsb hown hmax).mono ?_
      rintro e' w' ⟨v, rfl, rs, hO, hrow, hbel⟩
      have hl := ordL_eq hO
      refine ⟨_, _, B ++ [v], _, hq, List.prefix_append _ _, rfl, ref_to hm.sat.len _, ?_⟩
      refine hm.add (below_grown hbel) (fun b hb => ?_) (.inl ?_)
      · rcases hrow.2 with ⟨rfl, -⟩ | ⟨g, cap, cur, rfl, h0, -⟩
        · cases hb
        · simp only [blockOf, Option.some.injEq] at hb
          exact hb ▸ h0
      · rw [hl]
        obtain ⟨q1, q2⟩ := hrow
        refine ⟨q1, ?_⟩
        rcases q2 with q2 | ⟨g', cap', cur', q3, q4, q5⟩
        · exact .inl q2
        · exact .inr ⟨g', cap', cur', q3, Nat.zero_le _, q5⟩
  · cases ht
/-- order: nothing old is changed -/
def gOrd (P : Program) (G : GTab) : GTab := fun f ss g n => bif Nat.beq f 14 then (match ss with
  | [.ptr k 0] => (match g k with
    | some (.own [_, .ref j]) => (match g j with
      | some (.ext (.smap P' kk e D)) => bif Nat.beq kk 9 && Nat.beq e 3 then some (.need (P' = P ∧ mSize D ≤ 1000000000) (.leaf (.ref n, ⟨[], [.vec true 9 1 (ordL D).length ((ordL D).map encStr)]⟩))) else none
      | _ => none)
    | _ => none)
  | _ => none) else G f ss g n
theorem gOrd_ok {G : GTab} (hG : GOk Try.prog G) : GOk Try.prog (gOrd Try.prog G) := by
  intro f ss g nn t hf
  unfold gOrd at hf
  cases hbf : Nat.beq f 14
  · rw [hbf, cond_false] at hf; exact hG f ss g nn t hf
  · rw [hbf, cond_true] at hf
    obtain rfl := Nat.eq_of_beq_eq_true hbf
    refine ⟨by kernel_rfl, ?_⟩
    split at hf
    · rename_i k
      split at hf
      · rename_i s j hk
        split at hf
        · rename_i P' kk e D hj
          cases hb : (Nat.beq kk 9 && Nat.beq e 3)
          · rw [hb] at hf; cases hf
          · rw [hb, cond_true, Option.some.injEq] at hf
            subst hf
            rw [Bool.and_eq_true] at hb
            obtain rfl := Nat.eq_of_beq_eq_true hb.1
            obtain rfl := Nat.eq_of_beq_eq_true hb.2
            intro w0 bs H B w vs hm hg hn hv Qs hq
            obtain ⟨⟨rfl, hmax⟩, hq⟩ := hq
            subst hn
            have hk := hg _ _ hk
            have hj := hg _ _ hj
            obtain ⟨sb, us, e1, e2, e3⟩ := hm.own_at hk
            obtain ⟨u1, hu1⟩ := hm.sat.getB hj
            obtain ⟨b, rfl, hown⟩ := hm.sat.blk j _ u1 hj hu1
            obtain ⟨x0, r0, g0, v0, rfl⟩ := tos_cons hv
            obtain rfl := tos_nil v0
            simp only [SV.to, e1, Option.some.injEq] at g0
            subst g0
            obtain ⟨y0, s0, k0, l0, rfl⟩ := tos_cons e2
            obtain ⟨y1, s1, k1, l1, rfl⟩ := tos_cons l0
            obtain rfl := tos_nil l1
            simp only [SV.to, hu1, Option.some.injEq] at k1
            subst k1
            have hsb : w.cell? ⟨sb, 1, none⟩ = some (.map (some b)) := by rw [e3.2.1 1]; rfl
            refine (order_any hsb hown hmax).mono ?_
            rintro e' w' ⟨v, rfl, rs, hO, hrow, hbel⟩
            have hl := ordL_eq hO
            refine ⟨_, _, B ++ [v], _, hq, List.prefix_append _ _, rfl, ref_to hm.sat.len _, ?_⟩
            refine hm.add (below_grown hbel) (fun b hb => ?_) (.inl ?_)
            · rcases hrow.2 with ⟨rfl, -⟩ | ⟨g, cap, cur, rfl, h0, -⟩
              · cases hb
              · simp only [blockOf, Option.some.injEq] at hb
                exact hb ▸ h0
            · rw [hl]
              obtain ⟨q1, q2⟩ := hrow
              refine ⟨q1, ?_⟩
              rcases q2 with q2 | ⟨g', cap', cur', q3, q4, q5⟩
              · exact .inl q2
              · exact .inr ⟨g', cap', cur', q3, Nat.zero_le _, q5⟩
        · cases hf
      · cases hf
    · cases hf
def FWh0 (P : Program) : LTab := addT 14 (fOrd P) noF
theorem FWh0_ok : LOk Try.prog (FWh0 Try.prog) := addT_ok noF_ok (by kernel_rfl) fOrd_ok
abbrev fsWh0 : List Nat := [14]
abbrev CWh0 (P : Program) : Cfg := both P noS (FWh0 P) fsWh0
theorem CWh0_ok : CfgOk Try.prog (CWh0 Try.prog) := both_ok noS_ok FWh0_ok
abbrev wmap (P : Program) (D : DataW Unit) : Blk := .ext (.smap P 9 3 D)
abbrev wown (now : Int) : Blk := .own [.v (.int .i64 now), .ref 1]
set_option maxRecDepth 100000 in
theorem set_run (now t : Int) (s : ByteArray) (D : DataW Unit) : trimT 2 (runF Try.prog (CWh0 Try.prog) noL Try.f7 (Try.f7.body.getD .skip) [.ptr 0 0, .v (.string s), .v (.int .i64 t)] [.own [.v (.int .i64 now), .ref 1], .ext (.smap Try.prog 9 3 D)]) = .need (Try.prog = Try.prog) (.need (s.size ≤ 9223372036854775807) (.ite (!mHas D s) (.need (Try.prog = Try.prog) (.ite (decide ((↑(mSize D) : Int) ≥ (64 : Int))) (.leaf (SV.v (Value.tuple (Array.mk [])), [.own [.v (.int .i64 now), SV.ref 1], Blk.ext (XD.smap Try.prog 9 3 D)])) (.need (Try.prog = Try.prog) (.need (s.size ≤ 9223372036854775807 ∧ (decide ((-9223372036854775808 : Int) ≤ IntKind.i64.wrap (now + if (1073741824 : Int) < if (1 : Int) > t then (1 : Int) else t then (1073741824 : Int) else if (1 : Int) > t then (1 : Int) else t)) && decide (IntKind.i64.wrap (now + if (1073741824 : Int) < if (1 : Int) > t then (1 : Int) else t then (1073741824 : Int) else if (1 : Int) > t then (1 : Int) else t) ≤ (9223372036854775807 : Int))) = true ∧ mSize D < 1000000000) (.leaf (SV.v (Value.tuple (Array.mk [])), [.own [.v (.int .i64 now), SV.ref 1], Blk.ext (XD.smap Try.prog 9 3 (mPut D s (IntKind.i64.wrap (now + if (1073741824 : Int) < if (1 : Int) > t then (1 : Int) else t then (1073741824 : Int) else if (1 : Int) > t then (1 : Int) else t))))])))))) (.need (Try.prog = Try.prog) (.need (s.size ≤ 9223372036854775807 ∧ (decide ((-9223372036854775808 : Int) ≤ IntKind.i64.wrap (now + if (1073741824 : Int) < if (1 : Int) > t then (1 : Int) else t then (1073741824 : Int) else if (1 : Int) > t then (1 : Int) else t)) && decide (IntKind.i64.wrap (now + if (1073741824 : Int) < if (1 : Int) > t then (1 : Int) else t then (1073741824 : Int) else if (1 : Int) > t then (1 : Int) else t) ≤ (9223372036854775807 : Int))) = true ∧ mSize D < 1000000000) (.leaf (SV.v (Value.tuple (Array.mk [])), [.own [.v (.int .i64 now), SV.ref 1], Blk.ext (XD.smap Try.prog 9 3 (mPut D s (IntKind.i64.wrap (now + if (1073741824 : Int) < if (1 : Int) > t then (1 : Int) else t then (1073741824 : Int) else if (1 : Int) > t then (1 : Int) else t))))])))))) := by kernel_rfl
set_option maxRecDepth 100000 in
theorem new_run (now : Int) : canT 0 (runF Try.prog (CWh0 Try.prog) noL Try.f6 (Try.f6.body.getD .skip) [.v (.int .i64 now)] []) = .leaf (.ptr 0 0, [.own [.v (.int .i64 (if (1099511627776 : Int) < if (0 : Int) > now then (0 : Int) else now then (1099511627776 : Int) else if (0 : Int) > now then (0 : Int) else now)), SV.ref 1], Blk.ext (XD.smap Try.prog 9 3 (DataW.map []))]) := by kernel_rfl
end Go.Proofs.Ytpbjknkbllcciaa
