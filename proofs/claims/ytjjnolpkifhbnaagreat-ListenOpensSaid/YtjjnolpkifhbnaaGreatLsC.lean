/- Listening: who accepts: contracts. No conditions. -/
import Derived.Test.YtjjnolpkifhbnaaGreatLsB
import Derived.Test.YtjjnolpkifhbnaaGreatTl
namespace Go.Proofs.YtjjnolpkifhbnaaGreat
set_option linter.unusedVariables false
set_option linter.unusedSimpArgs false
open Go.RowKit Sym Sha Go.ChangeShapes Go.WideShapes Go.ChangeMaps Inet

def freshB (d now : Int) : Bool := decide (d ≤ now) && decide (IntKind.i64.wrap (now - d) ≤ 256)
def accG (c kind : Int) (long fb : Bool) (E : Int) (o : Nt) (svc now seq ack : Int) : Int :=
  if ¬ c = 0 then 4 else if ¬ (kind = 3 ∨ kind = 4) then 7 else if ¬ long = true then 7 else if ¬ fb = true then 8 else if ¬ E = 0 then E else if ¬ o.c = svc then 15 else
  if ¬ freshB o.d now = true then 16 else if ¬ Circ.within seq (Circ.add o.a 1) (Circ.add o.a 64) = true then 12 else if ¬ ack = o.b then 13 else 0
/-- what is wrong with a packet that is to open -/
def accE (k : ByteArray) (svc : Int) (p : Pk) (n : Nat) (g : Nat → Op) (x y now : Int) : Int :=
  accG (chkP p n g) p.kind p.long (findB n g 36) (openE k x y (findV n g 36)) (openN k x y (findV n g 36)) svc now p.seq p.ack
def accN (k : ByteArray) (svc : Int) (p : Pk) (n : Nat) (g : Nat → Op) (x y now : Int) : Nt := if accE k svc p n g x y now = 0 then openN k x y (findV n g 36) else nt0
theorem openN_ok {k : ByteArray} {f t : Int} {s : ByteArray} (h : openE k f t s = 0) : okN (openN k f t s) := (sealE_zero (seals k f t s h).2).1
theorem findV_few {n : Nat} {g : Nat → Op} (hf : Few n g) (k : Int) : (findV n g k).size ≤ 1000000 := by
  unfold findV
  split
  · rename_i h; exact hf.2 _ h
  · exact Nat.zero_le _
theorem add_wrap {a z : Int} (h0 : 0 ≤ a) (h1 : a < 281474976710656) (hz0 : 0 ≤ z) (hz : z < 1000) : Circ.of (IntKind.i64.wrap (a + z)) = Circ.add a z := by
  rw [w64 _ (by omega) (by omega)]
  unfold Circ.add Circ.of
  omega
def accV (o : Nt) (e : Int) : Value := .tuple #[.agg #[.int .i64 o.a, .int .i64 o.b, .int .i64 o.c, .int .i64 o.d, .string o.x], .int .i64 e]
def AccP (k : ByteArray) (p : Pk) (n : Nat) (f : Nat → Nat → Value) : Prop := ChkPL p n f ∧ k.size ≤ 1000000000000
/-- the program's -/
def fAcc (ae : ByteArray → Int → Pk → Nat → (Nat → Op) → Int → Int → Int → Int) (an : ByteArray → Int → Pk → Nat → (Nat → Op) → Int → Int → Int → Nt) : List SV → List Blk → Option (T (SV × List Blk))
  | [.ptr 0 0, .agg l, .v (.agg ⟨[.int .i64 x, .int .i64 y]⟩), .v (.int .i64 now)], [.own [.v (.string k), .v (.int .i64 svc)], .row n 2 f] => (pkOf (l.map openS)).bind fun r => match r.2 with
    | .ref 1 => some (.need (AccP k r.1 n f) (.leaf (.v (accV (an k svc r.1 n (opF f) x y now) (ae k svc r.1 n (opF f) x y now)), [.own [.v (.string k), .v (.int .i64 svc)], .row n 2 f])))
    | _ => none
  | [.v (.pointer none), .agg l, .v (.agg ⟨[.int .i64 x, .int .i64 y]⟩), .v (.int .i64 now)], [.row n 2 f] => (pkOf (l.map openS)).bind fun r => match r.2 with
    | .ref 0 => some (.leaf (.v (accV nt0 10), [.row n 2 f]))
    | _ => none
  | _, _ => none
theorem acc_leaf {k : ByteArray} {svc : Int} {p : Pk} {n : Nat} {g : Nat → Op} {x y now : Int} {e : Int} (h : accE k svc p n g x y now = e) (he : e ≠ 0) : accV (accN k svc p n g x y now) (accE k svc p n g x y now) = accV nt0 e := by
  unfold accN; rw [h, if_neg he]
theorem acc_good {k : ByteArray} {svc : Int} {p : Pk} {n : Nat} {g : Nat → Op} {x y now : Int} (h : accE k svc p n g x y now = 0) : accV (accN k svc p n g x y now) (accE k svc p n g x y now) = accV (openN k x y (findV n g 36)) 0 := by
  unfold accN; rw [h, if_pos rfl]
theorem CLs1_ok : CfgOk Tryz.prog (CLs1 Tryz.prog lsZ Tryz.f32 Tryz.f34 Tryz.f60) := by
  refine both_ok SLs_ok (addT_ok (addT_ok FLs0_ok (by kernel_rfl) ?_) (by kernel_rfl) ?_)
  · exact inl_ok (both_ok (addI_ok SLs_ok (onlyS_ok noS_ok) follows Tryz.func60 (by kernel_rfl) (by kernel_rfl) (by kernel_rfl) (noloops (by kernel_rfl))) FLs0_ok) follows Tryz.func34 (by kernel_rfl) (lexAllF_ok (by kernel_rfl)) (noloops (by kernel_rfl))
  · exact inl_ok CLs0_ok follows Tryz.func32 (by kernel_rfl) (lexAllF_ok (by kernel_rfl)) (noloops (by kernel_rfl))
set_option maxRecDepth 100000 in
theorem accept_tree (Z : LsZ) (k : ByteArray) (svc : Int) (p : Pk) (n : Nat) (f : Nat → Nat → Value) (x y now : Int) {Qs : SV × List Blk → Prop} (hc : ChkPL p n f) (hk : k.size ≤ 1000000000000) (hn : n ≤ 9223372036854775807) (hs : (Z.fv n (opF f) 36).size ≤ 1000000) (hA : AllOp n f)
    (hd : Z.oe k x y (Z.fv n (opF f) 36) = 0 → (Z.on k x y (Z.fv n (opF f) 36)).d ≥ 0)
    (kb : ∀ e, accG (Z.ck p n (opF f)) p.kind p.long (Z.fb n (opF f) 36) (Z.oe k x y (Z.fv n (opF f) 36)) (Z.on k x y (Z.fv n (opF f) 36)) svc now p.seq p.ack = e → e ≠ 0 → Qs (SV.v (Value.tuple (Array.mk [Value.agg (Array.mk [Value.int IntKind.i64 (0 : Int), Value.int IntKind.i64 (0 : Int), Value.int IntKind.i64 (0 : Int), Value.int IntKind.i64 (0 : Int), Value.string (ByteArray.mk (Array.mk []))]), Value.int IntKind.i64 e])), [.own [.v (.string k), .v (.int .i64 svc)], .row n 2 f]))
    (kg : accG (Z.ck p n (opF f)) p.kind p.long (Z.fb n (opF f) 36) (Z.oe k x y (Z.fv n (opF f) 36)) (Z.on k x y (Z.fv n (opF f) 36)) svc now p.seq p.ack = 0 → Qs (SV.v (Value.tuple (Array.mk [Value.agg (Array.mk [Value.int IntKind.i64 (Z.on k x y (Z.fv n (opF f) 36)).a, Value.int IntKind.i64 (Z.on k x y (Z.fv n (opF f) 36)).b, Value.int IntKind.i64 (Z.on k x y (Z.fv n (opF f) 36)).c, Value.int IntKind.i64 (Z.on k x y (Z.fv n (opF f) 36)).d, Value.string (Z.on k x y (Z.fv n (opF f) 36)).x]), Value.int IntKind.i64 (0 : Int)])), [.own [.v (.string k), .v (.int .i64 svc)], .row n 2 f])) {t : T (SV × List Blk)} (ht : trimT 2 (runF Tryz.prog (CLs1 Tryz.prog Z Tryz.f32 Tryz.f34 Tryz.f60) noL Tryz.f16 (Tryz.f16.body.getD .skip) [.ptr 0 0, p.s (.ref 1), .v (.agg #[.int .i64 x, .int .i64 y]), .v (.int .i64 now)] [.own [.v (.string k), .v (.int .i64 svc)], .row n 2 f]) = t) :
    t.ok Qs := by
  subst ht
  rw [accept_run]
  generalize Z.ck p n (opF f) = c at *
  generalize Z.fb n (opF f) 36 = fb at *
  generalize Z.fv n (opF f) 36 = s at *
  generalize Z.oe k x y s = E at *
  generalize Z.on k x y s = o at *
  repeat' (first | (with_reducible refine t_need ?_ ?_) | (with_reducible refine t_ite ?_ ?_; all_goals intro h) | (with_reducible refine t_leaf ?_))
  all_goals first
    | (with_reducible exact hc) | (with_reducible exact ⟨hn, hA⟩) | (with_reducible exact ⟨hk, hs⟩)
    | (with_reducible refine kb _ ?_ ?_; all_goals clear kb kg; all_goals simp only [Bool.not_eq_true', Bool.not_eq_false', decide_eq_true_eq, decide_eq_false_iff_not] at *; all_goals simp [accG, freshB, *]; done)
    | (with_reducible refine kg ?_; clear kb kg; simp only [Bool.not_eq_true', Bool.not_eq_false', decide_eq_true_eq, decide_eq_false_iff_not] at *; simp [accG, freshB, *]; done)
    | (clear kb kg; exfalso; simp_all; done)
    | skip
set_option maxRecDepth 100000 in
theorem fAcc_ok : EntryOk Tryz.prog 16 (fAcc accE accN) := by
  intro ss H t ht bs B w vs hm hv Qs hq
  unfold fAcc at ht
  split at ht
  · rename_i l x y now k svc n f
    simp only [Option.bind_eq_some_iff] at ht
    obtain ⟨⟨p, o⟩, hp, ht⟩ := ht
    have hl := pkOf_ok hp
    split at ht
    · rename_i ho
      simp only at ho
      subst ho
      simp only [Option.some.injEq] at ht
      subst ht
      obtain ⟨⟨hc, hk⟩, hq⟩ := hq
      have hv' : SV.tos B [.ptr 0 0, p.s (.ref 1), .v (.agg #[.int .i64 x, .int .i64 y]), .v (.int .i64 now)] = some vs := by
        rw [← hl]
        have := hv
        simp only [SV.tos] at this ⊢
        have e : (SV.agg (l.map openS)).to B = (SV.agg l).to B := by simp only [SV.to]; rw [opens_tos]
        rw [e]; exact this
      refine trimT_ok CLs1_ok follows Tryz.func16 (by kernel_rfl) (lexAllF_ok (by kernel_rfl)) (noloops (by kernel_rfl)) (accept_run lsZ k svc p n f x y now) hm hv' ?_
      have kb : ∀ e, accE k svc p n (opF f) x y now = e → e ≠ 0 → Qs (SV.v (accV nt0 e), [.own [.v (.string k), .v (.int .i64 svc)], .row n 2 f]) := fun e h he => by rw [← acc_leaf h he]; exact hq
      have kg : accE k svc p n (opF f) x y now = 0 → Qs (SV.v (accV (openN k x y (findV n (opF f) 36)) 0), [.own [.v (.string k), .v (.int .i64 svc)], .row n 2 f]) := fun h => by rw [← acc_good h]; exact hq
      have hn : n ≤ 9223372036854775807 := by have := hc.1.2.1; omega
      have hs := findV_few hc.1.2 36
      have hd : openE k x y (findV n (opF f) 36) = 0 → (openN k x y (findV n (opF f) 36)).d ≥ 0 := fun h => (openN_ok h).2.2.2.1
      have hA := hc.1.1
      have h1 := accept_tree lsZ k svc p n f x y now (Qs := Qs) hc hk hn hs hA hd kb kg (accept_run lsZ k svc p n f x y now)
      with_reducible exact h1
    · cases ht
  · rename_i l x y now n f
    simp only [Option.bind_eq_some_iff] at ht
    obtain ⟨⟨p, o⟩, hp, ht⟩ := ht
    have hl := pkOf_ok hp
    split at ht
    · rename_i ho
      simp only at ho
      subst ho
      simp only [Option.some.injEq] at ht
      subst ht
      have hv' : SV.tos B [.v (.pointer none), p.s (.ref 0), .v (.agg #[.int .i64 x, .int .i64 y]), .v (.int .i64 now)] = some vs := by
        rw [← hl]
        have := hv
        simp only [SV.tos] at this ⊢
        have e : (SV.agg (l.map openS)).to B = (SV.agg l).to B := by simp only [SV.to]; rw [opens_tos]
        rw [e]; exact this
      refine trimT_ok CLs1_ok follows Tryz.func16 (by kernel_rfl) (lexAllF_ok (by kernel_rfl)) (noloops (by kernel_rfl)) (acceptNil_run lsZ p n f x y now) hm hv' ?_
      have hq : Qs (SV.v (accV nt0 10), [.row n 2 f]) := hq
      refine t_ite (fun _ => t_leaf ?_) fun h => by cases h
      exact hq
    · cases ht
  · cases ht
end Go.Proofs.YtjjnolpkifhbnaaGreat
