/- Listening: who answers: trees. No conditions. -/
import Derived.Test.YtjjnolpkifhbnaaGreatLsD
import Derived.Test.YtjjnolpkifhbnaaGreatCan
namespace Go.Proofs.YtjjnolpkifhbnaaGreat
set_option linter.unusedVariables false
set_option linter.unusedSimpArgs false
open Go.RowKit Sym Sha Go.ChangeShapes Go.WideShapes Go.ChangeMaps Inet

/-- Concat where the second part is nil -/
def fCatN (P : Program) (fCat : Func) : List SV → List Blk → Option (T (SV × List Blk))
  | [.ref 0], [.lst e 1 2 [.ref 1, s], A] => bif isNilS (some s) then inl P (CGrow P) (LCat P fCat) fCat [.ref 0] [.lst e 1 2 [.ref 1, .ref 2], A, .row 0 2 fun _ _ => undef] else inl P (CGrow P) (LCat P fCat) fCat [.ref 0] [.lst e 1 2 [.ref 1, s], A]
  | ss, H => inl P (CGrow P) (LCat P fCat) fCat ss H
theorem fCatN_ok : EntryOk Tryz.prog 26 (fCatN Tryz.prog Tryz.f26) := by
  intro ss H t h
  unfold fCatN at h
  split at h
  · rename_i e s A
    cases hb : isNilS (some s)
    · rw [hb] at h; exact fCat_ok _ _ t h
    · rw [hb, cond_true] at h
      intro bs B w vs hm hv Qs hq
      obtain ⟨s', hs', hnil⟩ := nil_to hb
      simp only [Option.some.injEq] at hs'
      subst hs'
      obtain ⟨u0, hu0⟩ := hm.sat.getB (k := 0) rfl
      have m1 : Mem w bs ([Blk.lst e 1 2 [.ref 1, s], A] ++ [.row 0 2 fun _ _ => undef]) (B ++ [.slice none 0 0]) w :=
        hm.add (y := .row 0 2 fun _ _ => undef) (u := .slice none 0 0) ⟨rfl, rfl, rfl, Nat.le_refl _, fun _ _ _ => rfl⟩ (fun b hb => by cases hb) ⟨none, 0, rfl, Nat.le_refl _, Nat.zero_le _, fun i j hi => absurd hi (Nat.not_lt_zero _)⟩
      have hl : B.length = 2 := hm.sat.len
      have hu0' : (B ++ [Value.slice none 0 0])[0]? = some u0 := getElem?_prefix (List.prefix_append _ _) hu0
      have m2 := m1.upd (k := 0) (x := .lst e 1 2 [.ref 1, s]) (y := .lst e 1 2 [.ref 1, .ref 2]) (u := u0) rfl rfl hu0' (w' := w) ⟨rfl, rfl, rfl, Nat.le_refl _, fun _ _ _ => rfl⟩ rfl (by
        obtain ⟨xs, h1, h2⟩ := m1.sat.blk 0 _ u0 rfl hu0'
        refine ⟨xs, ?_, h2⟩
        rw [← h1]
        simp only [SV.tos, SV.to, hnil, List.getElem?_append_right (show B.length ≤ 2 by omega), hl]
        rfl)
      have hv2 : SV.tos (B ++ [.slice none 0 0]) [.ref 0] = some vs := SV.tos_mono (List.prefix_append _ _) hv
      refine (fCat_ok _ _ t h bs _ w vs m2 hv2 Qs hq).mono ?_
      rintro e' w' ⟨s1, H1, B1, x1, a1, a2, a3, a4, a5⟩
      exact ⟨s1, H1, B1, x1, a1, (List.prefix_append _ _).trans a2, a3, a4, a5⟩
  · exact fCat_ok _ _ t h
def FLa (P : Program) (Z : LsZ) (fAsked fCat : Func) : LTab := addT 23 (inl P (CLs0 P Z) noL fAsked) <| addT 26 (fCatN P fCat) (FLs0 Z)
abbrev fsLa : List Nat := 23 :: 26 :: fsLs0
abbrev CLa (P : Program) (Z : LsZ) (fAsked fCat : Func) : Cfg := both P (SLs Z) (FLa P Z fAsked fCat) fsLa
theorem CLa_ok : CfgOk Tryz.prog (CLa Tryz.prog lsZ Tryz.f23 Tryz.f26) := both_ok SLs_ok (addT_ok (addT_ok FLs0_ok (by kernel_rfl) fCatN_ok) (by kernel_rfl) (inl_ok CLs0_ok follows Tryz.func23 (by kernel_rfl) (lexAllF_ok (by kernel_rfl)) (noloops (by kernel_rfl))))
/-- a request -/
abbrev askS (p : Pk) (o : SV) (x y iss : Int) (ex : ByteArray) (u : SV) (now : Int) : SV := .agg [.v (.int .i64 p.kind), .v (.bool p.long), .v (.int .i64 p.src), .v (.int .i64 p.dst), .v (.int .i64 p.ccval), .v (.int .i64 p.cover), .v (.int .i64 p.seq), .v (.int .i64 p.ack), .v (.int .i64 p.service), .v (.int .i64 p.code), .v (.int .i64 p.detail), o, .v (.string p.data), .v (.int .i64 x), .v (.int .i64 y), .v (.int .i64 iss), .v (.string ex), u, .v (.int .i64 now)]
set_option maxRecDepth 100000 in
theorem answer_run (Z : LsZ) (k : ByteArray) (svc : Int) (p : Pk) (x y iss : Int) (ex : ByteArray) (now : Int) (n m : Nat) (f h : Nat → Nat → Value) : canT 3 (runF Tryz.prog (CLa Tryz.prog Z Tryz.f23 Tryz.f26) noL Tryz.f9 (Tryz.f9.body.getD .skip) [.ptr 0 0, askS p (.ref 1) x y iss ex (.ref 2) now] [.own [.v (.string k), .v (.int .i64 svc)], .row n 2 f, .row m 2 h]) = .need (ChkPL p n f) (.ite (!decide (Z.1 p n (opF f) = (0 : Int))) (.leaf (SV.v (Value.tuple (Array.mk [Value.agg (Array.mk [Value.int IntKind.i64 0, Value.bool false, Value.int IntKind.i64 0, Value.int IntKind.i64 0, Value.int IntKind.i64 0, Value.int IntKind.i64 0, Value.int IntKind.i64 0, Value.int IntKind.i64 0, Value.int IntKind.i64 0, Value.int IntKind.i64 0, Value.int IntKind.i64 0, Value.slice none 0 0, Value.string (ByteArray.mk (Array.mk []))]), Value.int IntKind.i64 4])), [.own [.v (.string k), .v (.int .i64 svc)], Blk.row n 2 f, Blk.row m 2 h])) (.ite (!decide (p.1 = (0 : Int))) (.leaf (SV.v (Value.tuple (Array.mk [Value.agg (Array.mk [Value.int IntKind.i64 0, Value.bool false, Value.int IntKind.i64 0, Value.int IntKind.i64 0, Value.int IntKind.i64 0, Value.int IntKind.i64 0, Value.int IntKind.i64 0, Value.int IntKind.i64 0, Value.int IntKind.i64 0, Value.int IntKind.i64 0, Value.int IntKind.i64 0, Value.slice none 0 0, Value.string (ByteArray.mk (Array.mk []))]), Value.int IntKind.i64 7])), [.own [.v (.string k), .v (.int .i64 svc)], Blk.row n 2 f, Blk.row m 2 h])) (.ite (!decide (p.9 = svc)) (.leaf (SV.v (Value.tuple (Array.mk [Value.agg (Array.mk [Value.int IntKind.i64 0, Value.bool false, Value.int IntKind.i64 0, Value.int IntKind.i64 0, Value.int IntKind.i64 0, Value.int IntKind.i64 0, Value.int IntKind.i64 0, Value.int IntKind.i64 0, Value.int IntKind.i64 0, Value.int IntKind.i64 0, Value.int IntKind.i64 0, Value.slice none 0 0, Value.string (ByteArray.mk (Array.mk []))]), Value.int IntKind.i64 15])), [.own [.v (.string k), .v (.int .i64 svc)], Blk.row n 2 f, Blk.row m 2 h])) (.need (k.size ≤ 1000000000000) (.ite (!decide (Z.5 (Nt.mk p.7 (Circ.of iss) p.9 now ex) = (0 : Int))) (.leaf (SV.v (Value.tuple (Array.mk [Value.agg (Array.mk [Value.int IntKind.i64 0, Value.bool false, Value.int IntKind.i64 0, Value.int IntKind.i64 0, Value.int IntKind.i64 0, Value.int IntKind.i64 0, Value.int IntKind.i64 0, Value.int IntKind.i64 0, Value.int IntKind.i64 0, Value.int IntKind.i64 0, Value.int IntKind.i64 0, Value.slice none 0 0, Value.string (ByteArray.mk (Array.mk []))]), Value.int IntKind.i64 (Z.5 (Nt.mk p.7 (Circ.of iss) p.9 now ex))])), [.own [.v (.string k), .v (.int .i64 svc)], Blk.row n 2 f, Blk.row m 2 h])) (.need ((0 : Int) ≤ (0 : Int) ∧ (0 : Int) < (2 : Int)) (.ite false (T.stuck 2) (.need ((0 : Int) ≤ (1 : Int) ∧ (1 : Int) < (2 : Int)) (.ite (decide (IntKind.i64.wrap ((1 : Int) + (↑m : Int)) < (0 : Int))) (T.stuck 2) (.need ((0 : Int) ≤ IntKind.i64.wrap ((1 : Int) + (↑m : Int)) ∧ IntKind.i64.wrap ((1 : Int) + (↑m : Int)) * (24 : Int) ≤ (140737488355328 : Int)) (.need ((0 : Int) ≤ (0 : Int) ∧ (0 : Int) < (2 : Int)) (.need (1 ≤ 9223372036854775807 ∧ 24 ≤ 140737488355328) (.need (allOneP [Value.int IntKind.i64 36, Value.string (Z.4 k x y (Nt.mk p.7 (Circ.of iss) p.9 now ex))]) (.need ((0 : Int) ≤ (1 : Int) ∧ (1 : Int) < (2 : Int)) (.need (1 + m ≤ 9223372036854775807 ∧ (1 + m) * 24 ≤ 140737488355328) (.need (allOneP (rowCells m 2 h)) (.need (OpP (1 + m) fun i j => cellAt (Value.int IntKind.i64 36 :: Value.string (Z.4 k x y (Nt.mk p.7 (Circ.of iss) p.9 now ex)) :: List.append._f [] PUnit.unit (rowCells m 2 h)) (i * 2 + j)) (.ite (!decide (Z.2 (1 + m) (opF fun i j => cellAt (Value.int IntKind.i64 36 :: Value.string (Z.4 k x y (Nt.mk p.7 (Circ.of iss) p.9 now ex)) :: List.append._f [] PUnit.unit (rowCells m 2 h)) (i * 2 + j)) = (0 : Int))) (.leaf (SV.v (Value.tuple (Array.mk [Value.agg (Array.mk [Value.int IntKind.i64 0, Value.bool false, Value.int IntKind.i64 0, Value.int IntKind.i64 0, Value.int IntKind.i64 0, Value.int IntKind.i64 0, Value.int IntKind.i64 0, Value.int IntKind.i64 0, Value.int IntKind.i64 0, Value.int IntKind.i64 0, Value.int IntKind.i64 0, Value.slice none 0 0, Value.string (ByteArray.mk (Array.mk []))]), Value.int IntKind.i64 (Z.2 (1 + m) (opF fun i j => cellAt (Value.int IntKind.i64 36 :: Value.string (Z.4 k x y (Nt.mk p.7 (Circ.of iss) p.9 now ex)) :: List.append._f [] PUnit.unit (rowCells m 2 h)) (i * 2 + j)))])), [.own [.v (.string k), .v (.int .i64 svc)], Blk.row n 2 f, Blk.row m 2 h])) (.leaf (SV.tup [SV.agg [.c (.int .i64 1), SV.tt, .v (.int .i64 p.4), .v (.int .i64 p.3), .c (.int .i64 0), .c (.int .i64 0), .v (.int .i64 (Circ.of iss)), .v (.int .i64 p.7), .v (.int .i64 p.9), .c (.int .i64 0), .c (.int .i64 0), SV.ref 3, SV.c (Value.string (ByteArray.mk (Array.mk [])))], .c (.int .i64 0)], [.own [.v (.string k), .v (.int .i64 svc)], Blk.row n 2 f, Blk.row m 2 h, Blk.vec true 47 2 (1 + m) (Value.int IntKind.i64 36 :: Value.string (Z.4 k x y (Nt.mk p.7 (Circ.of iss) p.9 now ex)) :: List.append._f [] PUnit.unit (rowCells m 2 h))])))))))))))))))))))) := by kernel_rfl
set_option maxRecDepth 100000 in
theorem ranswer_run (Z : LsZ) (k : ByteArray) (svc : Int) (p : Pk) (x y iss : Int) (ex : ByteArray) (now : Int) (n m : Nat) (f h : Nat → Nat → Value) : canT 2 (runF Tryz.prog (CLa Tryz.prog Z Tryz.f23 Tryz.f26) noL Tryz.f11 (Tryz.f11.body.getD .skip) [.v (.string k), .v (.int .i64 svc), p.s (.ref 0), .v (.agg #[.int .i64 x, .int .i64 y]), .v (.int .i64 iss), .v (.string ex), .ref 1, .v (.int .i64 now)] [.row n 2 f, .row m 2 h]) = .need (ChkPL p n f) (.ite (!decide (Z.1 p n (opF f) = (0 : Int))) (.leaf (SV.v (Value.tuple (Array.mk [Value.agg (Array.mk [Value.int IntKind.i64 0, Value.bool false, Value.int IntKind.i64 0, Value.int IntKind.i64 0, Value.int IntKind.i64 0, Value.int IntKind.i64 0, Value.int IntKind.i64 0, Value.int IntKind.i64 0, Value.int IntKind.i64 0, Value.int IntKind.i64 0, Value.int IntKind.i64 0, Value.slice none 0 0, Value.string (ByteArray.mk (Array.mk []))]), Value.int IntKind.i64 4])), [Blk.row n 2 f, Blk.row m 2 h])) (.ite (!decide (p.1 = (0 : Int))) (.leaf (SV.v (Value.tuple (Array.mk [Value.agg (Array.mk [Value.int IntKind.i64 0, Value.bool false, Value.int IntKind.i64 0, Value.int IntKind.i64 0, Value.int IntKind.i64 0, Value.int IntKind.i64 0, Value.int IntKind.i64 0, Value.int IntKind.i64 0, Value.int IntKind.i64 0, Value.int IntKind.i64 0, Value.int IntKind.i64 0, Value.slice none 0 0, Value.string (ByteArray.mk (Array.mk []))]), Value.int IntKind.i64 7])), [Blk.row n 2 f, Blk.row m 2 h])) (.ite (!decide (p.9 = svc)) (.leaf (SV.v (Value.tuple (Array.mk [Value.agg (Array.mk [Value.int IntKind.i64 0, Value.bool false, Value.int IntKind.i64 0, Value.int IntKind.i64 0, Value.int IntKind.i64 0, Value.int IntKind.i64 0, Value.int IntKind.i64 0, Value.int IntKind.i64 0, Value.int IntKind.i64 0, Value.int IntKind.i64 0, Value.int IntKind.i64 0, Value.slice none 0 0, Value.string (ByteArray.mk (Array.mk []))]), Value.int IntKind.i64 15])), [Blk.row n 2 f, Blk.row m 2 h])) (.need (k.size ≤ 1000000000000) (.ite (!decide (Z.5 (Nt.mk p.7 (Circ.of iss) p.9 now ex) = (0 : Int))) (.leaf (SV.v (Value.tuple (Array.mk [Value.agg (Array.mk [Value.int IntKind.i64 0, Value.bool false, Value.int IntKind.i64 0, Value.int IntKind.i64 0, Value.int IntKind.i64 0, Value.int IntKind.i64 0, Value.int IntKind.i64 0, Value.int IntKind.i64 0, Value.int IntKind.i64 0, Value.int IntKind.i64 0, Value.int IntKind.i64 0, Value.slice none 0 0, Value.string (ByteArray.mk (Array.mk []))]), Value.int IntKind.i64 (Z.5 (Nt.mk p.7 (Circ.of iss) p.9 now ex))])), [Blk.row n 2 f, Blk.row m 2 h])) (.need (1 + m ≤ 9223372036854775807 ∧ (1 + m) * 24 ≤ 140737488355328) (.need (allOneP (rowCells m 2 h)) (.need (OpP (1 + m) fun i j => cellAt (Value.int IntKind.i64 36 :: Value.string (Z.4 k x y (Nt.mk p.7 (Circ.of iss) p.9 now ex)) :: List.append._f [] PUnit.unit (rowCells m 2 h)) (i * 2 + j)) (.ite (!decide (Z.2 (1 + m) (opF fun i j => cellAt (Value.int IntKind.i64 36 :: Value.string (Z.4 k x y (Nt.mk p.7 (Circ.of iss) p.9 now ex)) :: List.append._f [] PUnit.unit (rowCells m 2 h)) (i * 2 + j)) = (0 : Int))) (.leaf (SV.v (Value.tuple (Array.mk [Value.agg (Array.mk [Value.int IntKind.i64 0, Value.bool false, Value.int IntKind.i64 0, Value.int IntKind.i64 0, Value.int IntKind.i64 0, Value.int IntKind.i64 0, Value.int IntKind.i64 0, Value.int IntKind.i64 0, Value.int IntKind.i64 0, Value.int IntKind.i64 0, Value.int IntKind.i64 0, Value.slice none 0 0, Value.string (ByteArray.mk (Array.mk []))]), Value.int IntKind.i64 (Z.2 (1 + m) (opF fun i j => cellAt (Value.int IntKind.i64 36 :: Value.string (Z.4 k x y (Nt.mk p.7 (Circ.of iss) p.9 now ex)) :: List.append._f [] PUnit.unit (rowCells m 2 h)) (i * 2 + j)))])), [Blk.row n 2 f, Blk.row m 2 h])) (.leaf (SV.tup [SV.agg [.c (.int .i64 1), SV.tt, .v (.int .i64 p.4), .v (.int .i64 p.3), .c (.int .i64 0), .c (.int .i64 0), .v (.int .i64 (Circ.of iss)), .v (.int .i64 p.7), .v (.int .i64 p.9), .c (.int .i64 0), .c (.int .i64 0), SV.ref 2, SV.c (Value.string (ByteArray.mk (Array.mk [])))], .c (.int .i64 0)], [Blk.row n 2 f, Blk.row m 2 h, Blk.vec false 47 2 (1 + m) (Value.int IntKind.i64 36 :: Value.string (Z.4 k x y (Nt.mk p.7 (Circ.of iss) p.9 now ex)) :: List.append._f [] PUnit.unit (rowCells m 2 h))]))))))))))) := by kernel_rfl
end Go.Proofs.YtjjnolpkifhbnaaGreat
namespace Go.Proofs.YtjjnolpkifhbnaaGreat
set_option linter.unusedVariables false
set_option linter.unusedSimpArgs false
open Go.RowKit Sym Sha Go.ChangeShapes Go.WideShapes Go.ChangeMaps Inet

def ansNt (p : Pk) (iss : Int) (ex : ByteArray) (now : Int) : Nt := ⟨p.seq, Circ.of iss, p.service, now, ex⟩
def ansC (s : ByteArray) (m : Nat) (h : Nat → Nat → Value) : List Value := .int .i64 36 :: .string s :: rowCells m 2 h
def ansF (s : ByteArray) (m : Nat) (h : Nat → Nat → Value) : Nat → Nat → Value := fun i j => cellAt (ansC s m h) (i * 2 + j)
theorem rowCells_at {n sz : Nat} (hz : 0 < sz) (f : Nat → Nat → Value) {i j : Nat} (hi : i < n) (hj : j < sz) : (rowCells n sz f)[i * sz + j]? = some (f i j) := by
  have hlt : i * sz + j < (rowCells n sz f).length := by
    rw [rowCells_length]
    have : (i + 1) * sz ≤ n * sz := Nat.mul_le_mul_right _ hi
    rw [Nat.succ_mul] at this
    omega
  have h := List.getElem?_eq_getElem hlt
  obtain ⟨-, -, e⟩ := rowCells_get _ _ _ h
  rw [h, e]
  have e1 : (i * sz + j) / sz = i := by rw [Nat.mul_comm, Nat.mul_add_div hz, Nat.div_eq_of_lt hj, Nat.add_zero]
  have e2 : (i * sz + j) % sz = j := by rw [Nat.mul_comm, Nat.mul_add_mod, Nat.mod_eq_of_lt hj]
  rw [e1, e2]
theorem ansF_0 (s : ByteArray) (m : Nat) (h : Nat → Nat → Value) : opF (ansF s m h) 0 = ⟨36, s⟩ := rfl
theorem ansF_succ (s : ByteArray) (m : Nat) (h : Nat → Nat → Value) {i j : Nat} (hi : i < m) (hj : j < 2) : ansF s m h (i + 1) j = h i j := by
  show ((Value.int IntKind.i64 36 :: Value.string s :: rowCells m 2 h).getD ((i + 1) * 2 + j) undef) = h i j
  rw [show (i + 1) * 2 + j = (i * 2 + j) + 1 + 1 by omega, List.getD_cons_succ, List.getD_cons_succ, List.getD_eq_getElem?_getD, rowCells_at (by decide) h hi hj]
  rfl
theorem ansF_all (s : ByteArray) (m : Nat) (h : Nat → Nat → Value) (ha : AllOp m h) : AllOp (1 + m) (ansF s m h) := by
  intro i hi j hj
  match i with
  | 0 => match j, hj with
    | 0, _ => rfl
    | 1, _ => rfl
  | i + 1 =>
    rw [ansF_succ s m h (by omega) hj, ha i (by omega) j hj]
    have e : opF (ansF s m h) (i + 1) = opF h i := by
      unfold opF
      rw [ansF_succ s m h (by omega) (by decide), ansF_succ s m h (by omega) (by decide)]
    rw [e]
theorem ansF_op {s : ByteArray} {m : Nat} {h : Nat → Nat → Value} (hs : s.size ≤ 1000000) (ha : OpP m h) (hm : m ≤ 999) : OpP (1 + m) (ansF s m h) := by
  refine ⟨ansF_all s m h ha.1, by omega, fun i hi => ?_⟩
  match i with
  | 0 => exact hs
  | i + 1 =>
    have e : opF (ansF s m h) (i + 1) = opF h i := by
      unfold opF
      rw [ansF_succ s m h (by omega) (by decide), ansF_succ s m h (by omega) (by decide)]
    rw [e]
    exact ha.2.2 i (by omega)
theorem all_one {m : Nat} {h : Nat → Nat → Value} (ha : AllOp m h) : allOneP (rowCells m 2 h) := by
  intro u hu
  obtain ⟨k, hk, e⟩ := List.getElem_of_mem hu
  obtain ⟨h1, h2, h3⟩ := rowCells_get _ _ _ (e ▸ List.getElem?_eq_getElem hk)
  rw [h3, ha _ h1 _ h2]
  generalize k % 2 = j at *
  match j, h2 with
  | 0, _ => rfl
  | 1, _ => rfl
theorem seal_size (k : ByteArray) (f t : Int) (n : Nt) : (sealS k f t n).size ≤ 1000000 := by
  unfold sealS
  split
  · rename_i h
    rw [ByteArray.size_append, noteB_size, markB_size]
    omega
  · exact Nat.zero_le _
def ansG (c kind service svc E O : Int) : Int := if ¬ c = 0 then 4 else if ¬ kind = 0 then 7 else if ¬ service = svc then 15 else if ¬ E = 0 then E else O
def ansE (Z : LsZ) (k : ByteArray) (svc : Int) (p : Pk) (n : Nat) (f : Nat → Nat → Value) (x y iss : Int) (ex : ByteArray) (now : Int) (m : Nat) (h : Nat → Nat → Value) : Int :=
  ansG (Z.ck p n (opF f)) p.kind p.service svc (Z.se (ansNt p iss ex now)) (Z.co (1 + m) (opF (ansF (Z.ss k x y (ansNt p iss ex now)) m h)))
def AnsP (k : ByteArray) (p : Pk) (n : Nat) (f : Nat → Nat → Value) (m : Nat) (h : Nat → Nat → Value) : Prop := (ChkPL p n f ∧ k.size ≤ 1000000000000) ∧ OpP m h ∧ m ≤ 999
def noPkV (e : Int) : SV := .v (.tuple #[.agg #[.int .i64 0, .bool false, .int .i64 0, .int .i64 0, .int .i64 0, .int .i64 0, .int .i64 0, .int .i64 0, .int .i64 0, .int .i64 0, .int .i64 0, .slice none 0 0, .string (ByteArray.mk (Array.mk []))], .int .i64 e])
def ansPkS (p : Pk) (iss : Int) (r : Nat) : SV := SV.tup [SV.agg [SV.c (.int .i64 1), SV.tt, SV.v (.int .i64 p.dst), SV.v (.int .i64 p.src), SV.c (.int .i64 0), SV.c (.int .i64 0), SV.v (.int .i64 (Circ.of iss)), SV.v (.int .i64 p.seq), SV.v (.int .i64 p.service), SV.c (.int .i64 0), SV.c (.int .i64 0), SV.ref r, SV.c (.string (ByteArray.mk (Array.mk [])))], SV.c (.int .i64 0)]
set_option maxRecDepth 100000 in
theorem answer_tree (Z : LsZ) (k : ByteArray) (svc : Int) (p : Pk) (x y iss : Int) (ex : ByteArray) (now : Int) (n m : Nat) (f h : Nat → Nat → Value) {Qs : SV × List Blk → Prop} (hc : ChkPL p n f) (hk : k.size ≤ 1000000000000) (ha : allOneP (rowCells m 2 h)) (hm : m ≤ 999) (hf : OpP (1 + m) (ansF (Z.ss k x y (ansNt p iss ex now)) m h))
    (kb : ∀ e, ansE Z k svc p n f x y iss ex now m h = e → e ≠ 0 → Qs (noPkV e, [.own [.v (.string k), .v (.int .i64 svc)], .row n 2 f, .row m 2 h]))
    (kg : ansE Z k svc p n f x y iss ex now m h = 0 → Qs (ansPkS p iss 3, [.own [.v (.string k), .v (.int .i64 svc)], .row n 2 f, .row m 2 h, .vec true 47 2 (1 + m) (ansC (Z.ss k x y (ansNt p iss ex now)) m h)]))
    {t : T (SV × List Blk)} (ht : canT 3 (runF Tryz.prog (CLa Tryz.prog Z Tryz.f23 Tryz.f26) noL Tryz.f9 (Tryz.f9.body.getD .skip) [.ptr 0 0, askS p (.ref 1) x y iss ex (.ref 2) now] [.own [.v (.string k), .v (.int .i64 svc)], .row n 2 f, .row m 2 h]) = t) : t.ok Qs := by
  subst ht
  rw [answer_run]
  have hw : IntKind.i64.wrap (1 + (m : Int)) = 1 + (m : Int) := w64 _ (by omega) (by omega)
  have ea : List.append._f [] PUnit.unit (rowCells m 2 h) = rowCells m 2 h := rfl
  rw [hw]
  rw [ea]
  unfold ansE at kb kg
  unfold ansF ansC ansNt at kb kg hf
  have h36 : allOneP [Value.int IntKind.i64 36, Value.string (Z.ss k x y ⟨p.seq, Circ.of iss, p.service, now, ex⟩)] := fun u hu => by
    simp only [List.mem_cons, List.not_mem_nil, or_false] at hu
    rcases hu with rfl | rfl <;> rfl
  generalize Z.co (1 + m) (opF fun i j => cellAt (Value.int IntKind.i64 36 :: Value.string (Z.ss k x y ⟨p.seq, Circ.of iss, p.service, now, ex⟩) :: rowCells m 2 h) (i * 2 + j)) = O at *
  generalize Z.se ⟨p.seq, Circ.of iss, p.service, now, ex⟩ = E at *
  generalize Z.ck p n (opF f) = c at *
  repeat' (first | (with_reducible refine t_need ?_ ?_) | (with_reducible refine t_ite ?_ ?_; all_goals intro h) | (with_reducible refine t_leaf ?_))
  all_goals first
    | (with_reducible exact hc) | (with_reducible exact hk) | (with_reducible exact ha) | (with_reducible exact h36) | (with_reducible exact hf) | (clear kb kg; omega) | (clear kb kg; exact ⟨by omega, by omega⟩)
    | (exact absurd h (by decide))
    | (clear kb kg; exfalso; simp only [decide_eq_true_eq] at h; omega)
    | (refine kb _ ?_ ?_
       all_goals clear kb kg
       all_goals simp only [Bool.not_eq_true', Bool.not_eq_false', decide_eq_true_eq, decide_eq_false_iff_not] at *
       all_goals simp [ansG, *]; done)
    | (refine kg ?_
       clear kb kg
       simp only [Bool.not_eq_true', Bool.not_eq_false', decide_eq_true_eq, decide_eq_false_iff_not] at *
       simp [ansG, *]; done)
    | trace_state
set_option maxRecDepth 100000 in
theorem ranswer_tree (Z : LsZ) (k : ByteArray) (svc : Int) (p : Pk) (x y iss : Int) (ex : ByteArray) (now : Int) (n m : Nat) (f h : Nat → Nat → Value) {Qs : SV × List Blk → Prop} (hc : ChkPL p n f) (hk : k.size ≤ 1000000000000) (ha : allOneP (rowCells m 2 h)) (hm : m ≤ 999) (hf : OpP (1 + m) (ansF (Z.ss k x y (ansNt p iss ex now)) m h))
    (kb : ∀ e, ansE Z k svc p n f x y iss ex now m h = e → e ≠ 0 → Qs (noPkV e, [.row n 2 f, .row m 2 h]))
    (kg : ansE Z k svc p n f x y iss ex now m h = 0 → Qs (ansPkS p iss 2, [.row n 2 f, .row m 2 h, .vec false 47 2 (1 + m) (ansC (Z.ss k x y (ansNt p iss ex now)) m h)]))
    {t : T (SV × List Blk)} (ht : canT 2 (runF Tryz.prog (CLa Tryz.prog Z Tryz.f23 Tryz.f26) noL Tryz.f11 (Tryz.f11.body.getD .skip) [.v (.string k), .v (.int .i64 svc), p.s (.ref 0), .v (.agg #[.int .i64 x, .int .i64 y]), .v (.int .i64 iss), .v (.string ex), .ref 1, .v (.int .i64 now)] [.row n 2 f, .row m 2 h]) = t) : t.ok Qs := by
  subst ht
  rw [ranswer_run]
  have ea : List.append._f [] PUnit.unit (rowCells m 2 h) = rowCells m 2 h := rfl
  rw [ea]
  unfold ansE at kb kg
  unfold ansF ansC ansNt at kb kg hf
  generalize Z.co (1 + m) (opF fun i j => cellAt (Value.int IntKind.i64 36 :: Value.string (Z.ss k x y ⟨p.seq, Circ.of iss, p.service, now, ex⟩) :: rowCells m 2 h) (i * 2 + j)) = O at *
  generalize Z.se ⟨p.seq, Circ.of iss, p.service, now, ex⟩ = E at *
  generalize Z.ck p n (opF f) = c at *
  repeat' (first | (with_reducible refine t_need ?_ ?_) | (with_reducible refine t_ite ?_ ?_; all_goals intro h) | (with_reducible refine t_leaf ?_))
  all_goals first
    | (with_reducible exact hc) | (with_reducible exact hk) | (with_reducible exact ha) | (with_reducible exact hf) | (clear kb kg; omega) | (clear kb kg; exact ⟨by omega, by omega⟩)
    | (exact absurd h (by decide))
    | (clear kb kg; exfalso; simp only [decide_eq_true_eq] at h; omega)
    | (refine kb _ ?_ ?_
       all_goals clear kb kg
       all_goals simp only [Bool.not_eq_true', Bool.not_eq_false', decide_eq_true_eq, decide_eq_false_iff_not] at *
       all_goals simp [ansG, *]; done)
    | (refine kg ?_
       clear kb kg
       simp only [Bool.not_eq_true', Bool.not_eq_false', decide_eq_true_eq, decide_eq_false_iff_not] at *
       simp [ansG, *]; done)
    | trace_state
set_option maxRecDepth 100000 in
theorem answerNil_run (Z : LsZ) (p : Pk) (x y iss : Int) (ex : ByteArray) (now : Int) (n m : Nat) (f h : Nat → Nat → Value) : canT 2 (runF Tryz.prog (CLa Tryz.prog Z Tryz.f23 Tryz.f26) noL Tryz.f9 (Tryz.f9.body.getD .skip) [.v (.pointer none), askS p (.ref 0) x y iss ex (.ref 1) now] [.row n 2 f, .row m 2 h]) = .ite true (.leaf (SV.v (Value.tuple (Array.mk [Value.agg (Array.mk [Value.int IntKind.i64 0, Value.bool false, Value.int IntKind.i64 0, Value.int IntKind.i64 0, Value.int IntKind.i64 0, Value.int IntKind.i64 0, Value.int IntKind.i64 0, Value.int IntKind.i64 0, Value.int IntKind.i64 0, Value.int IntKind.i64 0, Value.int IntKind.i64 0, Value.slice none 0 0, Value.string (ByteArray.mk (Array.mk []))]), Value.int IntKind.i64 10])), [Blk.row n 2 f, Blk.row m 2 h])) (.need (ChkPL p n f) (.ite (!decide (Z.1 p n (opF f) = (0 : Int))) (.leaf (SV.v (Value.tuple (Array.mk [Value.agg (Array.mk [Value.int IntKind.i64 0, Value.bool false, Value.int IntKind.i64 0, Value.int IntKind.i64 0, Value.int IntKind.i64 0, Value.int IntKind.i64 0, Value.int IntKind.i64 0, Value.int IntKind.i64 0, Value.int IntKind.i64 0, Value.int IntKind.i64 0, Value.int IntKind.i64 0, Value.slice none 0 0, Value.string (ByteArray.mk (Array.mk []))]), Value.int IntKind.i64 4])), [Blk.row n 2 f, Blk.row m 2 h])) (.ite (!decide (p.1 = (0 : Int))) (.leaf (SV.v (Value.tuple (Array.mk [Value.agg (Array.mk [Value.int IntKind.i64 0, Value.bool false, Value.int IntKind.i64 0, Value.int IntKind.i64 0, Value.int IntKind.i64 0, Value.int IntKind.i64 0, Value.int IntKind.i64 0, Value.int IntKind.i64 0, Value.int IntKind.i64 0, Value.int IntKind.i64 0, Value.int IntKind.i64 0, Value.slice none 0 0, Value.string (ByteArray.mk (Array.mk []))]), Value.int IntKind.i64 7])), [Blk.row n 2 f, Blk.row m 2 h])) (T.stuck 2)))) := by kernel_rfl
/-- a request, opened -/
structure AskR where
  p : Pk
  o : SV
  x : Int
  y : Int
  iss : Int
  ex : ByteArray
  u : SV
  now : Int
abbrev AskR.s (r : AskR) : SV := askS r.p r.o r.x r.y r.iss r.ex r.u r.now
def askOf : List SV → Option AskR
  | [a, b, c, d, e, f, g, h, i, j, k, o, m, x, y, z, s, u, n] => (pkOf [a, b, c, d, e, f, g, h, i, j, k, o, m]).bind fun r => (sInt x).bind fun x => (sInt y).bind fun y => (sInt z).bind fun z => (sStr s).bind fun s => (sInt n).bind fun n => some ⟨r.1, r.2, x, y, z, s, u, n⟩
  | _ => none
theorem askOf_ok {l : List SV} {r : AskR} (h : askOf l = some r) : SV.agg l = r.s := by
  unfold askOf at h
  split at h
  · simp only [Option.bind_eq_some_iff, Option.some.injEq] at h
    obtain ⟨q, hq, x, hx, y, hy, z, hz, s, hs, n, hn, rfl⟩ := h
    have e := pkOf_ok (p := q.1) (o := q.2) hq
    rw [sInt_ok hx, sInt_ok hy, sInt_ok hz, sStr_ok hs, sInt_ok hn]
    simp only [SV.agg.injEq, List.cons.injEq, and_true] at e
    obtain ⟨rfl, rfl, rfl, rfl, rfl, rfl, rfl, rfl, rfl, rfl, rfl, rfl, rfl⟩ := e
    rfl
  · cases h
/-- what is plainly known of answers, as letters: what is wrong; the cookie -/
structure AnsY where
  e : ByteArray → Int → Pk → Nat → (Nat → Nat → Value) → Int → Int → Int → ByteArray → Int → Nat → (Nat → Nat → Value) → Int
  s : ByteArray → Int → Int → Pk → Int → ByteArray → Int → ByteArray
def ansY : AnsY := ⟨ansE lsZ, fun k x y p iss ex now => sealS k x y (ansNt p iss ex now)⟩
/-- a letter of which nothing is known -/
theorem mem_gone {w0 : World} {bs : List Nat} {H : List Blk} {B : List Value} {w : World} (h : Mem w0 bs H B w) : Mem w0 bs (H ++ [.gone]) (B ++ [.bool true]) w :=
  h.add (y := .gone) (u := .bool true) ⟨rfl, rfl, rfl, Nat.le_refl _, fun _ _ _ => rfl⟩ (fun b hb => by cases hb) trivial
def PadQ (cg : Prop) (g b : SV × List Blk) (r : SV × List Blk) : Prop := (cg ∧ r = g) ∨ (¬ cg ∧ r = b)
theorem pad_ok {P : Program} {f : FuncId} {vs : Array Value} {w w0 : World} {bs : List Nat} {B : List Value} {g b : SV × List Blk} {Qs : SV × List Blk → Prop} {cg : Prop} (hg : cg → Qs g) (hb : ¬ cg → Qs (b.1, b.2 ++ [.gone]))
    (h : Calls P f vs w fun e w' => ∃ s H' B' x, PadQ cg g b (s, H') ∧ B <+: B' ∧ e = .returned x ∧ s.to B' = some x ∧ Mem w0 bs H' B' w') :
    Calls P f vs w fun e w' => ∃ s H' B' x, Qs (s, H') ∧ B <+: B' ∧ e = .returned x ∧ s.to B' = some x ∧ Mem w0 bs H' B' w' := by
  refine h.mono ?_
  rintro e w' ⟨s, H', B', x, hq, hp, he, hx, hm⟩
  rcases hq with ⟨hc, e1⟩ | ⟨hc, e1⟩
  · exact ⟨s, H', B', x, e1 ▸ hg hc, hp, he, hx, hm⟩
  · have hq := hb hc
    rw [← e1] at hq
    exact ⟨s, H' ++ [.gone], B' ++ [.bool true], x, hq, hp.trans (List.prefix_append _ _), he, SV.to_mono (List.prefix_append _ _) hx, mem_gone hm⟩
def fAns (Y : AnsY) : List SV → List Blk → Option (T (SV × List Blk))
  | [.ptr 0 0, .agg l], [.own [.v (.string k), .v (.int .i64 svc)], .row n 2 f, .row m 2 h] => (askOf (l.map openS)).bind fun r => match r.o, r.u with
    | .ref 1, .ref 2 => some (.need (AnsP k r.p n f m h) (.ite (decide (Y.e k svc r.p n f r.x r.y r.iss r.ex r.now m h = 0))
        (.leaf (ansPkS r.p r.iss 3, [.own [.v (.string k), .v (.int .i64 svc)], .row n 2 f, .row m 2 h, .vec true 47 2 (1 + m) (ansC (Y.s k r.x r.y r.p r.iss r.ex r.now) m h)]))
        (.leaf (noPkV (Y.e k svc r.p n f r.x r.y r.iss r.ex r.now m h), [.own [.v (.string k), .v (.int .i64 svc)], .row n 2 f, .row m 2 h, .gone]))))
    | _, _ => none
  | [.v (.pointer none), .agg l], [.row n 2 f, .row m 2 h] => (askOf (l.map openS)).bind fun r => match r.o, r.u with
    | .ref 0, .ref 1 => some (.leaf (noPkV 10, [.row n 2 f, .row m 2 h]))
    | _, _ => none
  | _, _ => none
def fRAns (Y : AnsY) : List SV → List Blk → Option (T (SV × List Blk))
  | [.v (.string k), .v (.int .i64 svc), .agg l, .v (.agg ⟨[.int .i64 x, .int .i64 y]⟩), .v (.int .i64 iss), .v (.string ex), .ref 1, .v (.int .i64 now)], [.row n 2 f, .row m 2 h] => (pkOf (l.map openS)).bind fun r => match r.2 with
    | .ref 0 => some (.need (AnsP k r.1 n f m h) (.ite (decide (Y.e k svc r.1 n f x y iss ex now m h = 0))
        (.leaf (ansPkS r.1 iss 2, [.row n 2 f, .row m 2 h, .vec false 47 2 (1 + m) (ansC (Y.s k x y r.1 iss ex now) m h)]))
        (.leaf (noPkV (Y.e k svc r.1 n f x y iss ex now m h), [.row n 2 f, .row m 2 h, .gone]))))
    | _ => none
  | _, _ => none
theorem agg_open (B : List Value) (l : List SV) : (SV.agg (l.map openS)).to B = (SV.agg l).to B := by simp only [SV.to]; rw [opens_tos]
set_option maxRecDepth 100000 in
theorem fAns_ok : EntryOk Tryz.prog 9 (fAns ansY) := by
  intro ss H t ht bs B w vs hm hv Qs hq
  unfold fAns at ht
  split at ht
  · rename_i l k svc n f m h
    simp only [Option.bind_eq_some_iff] at ht
    obtain ⟨⟨p, o, x, y, iss, ex, u, now⟩, hp, ht⟩ := ht
    have hl := askOf_ok hp
    split at ht
    · rename_i ho hu
      simp only at ho hu
      subst ho hu
      simp only [Option.some.injEq] at ht
      subst ht
      obtain ⟨⟨⟨hc, hk⟩, ha, hmm⟩, hq1, hq2⟩ := hq
      have hv' : SV.tos B [.ptr 0 0, askS p (.ref 1) x y iss ex (.ref 2) now] = some vs := by
        have := hv
        simp only [SV.tos] at this ⊢
        have e := (agg_open B l).symm.trans (congrArg (SV.to B) hl)
        rw [← e]; exact this
      refine pad_ok (cg := ansE lsZ k svc p n f x y iss ex now m h = 0) (g := (ansPkS p iss 3, [.own [.v (.string k), .v (.int .i64 svc)], .row n 2 f, .row m 2 h, .vec true 47 2 (1 + m) (ansC (sealS k x y (ansNt p iss ex now)) m h)])) (b := (noPkV (ansE lsZ k svc p n f x y iss ex now m h), [.own [.v (.string k), .v (.int .i64 svc)], .row n 2 f, .row m 2 h])) (fun he => hq1 (decide_eq_true he)) (fun he => hq2 (decide_eq_false he))
        (canT_ok (Qs := PadQ _ _ _) CLa_ok follows Tryz.func9 (by kernel_rfl) (lexAllF_ok (by kernel_rfl)) (noloops (by kernel_rfl)) (answer_run lsZ k svc p x y iss ex now n m f h) hm hv' ?_)
      have h1 := answer_tree lsZ k svc p x y iss ex now n m f h (Qs := PadQ (ansE lsZ k svc p n f x y iss ex now m h = 0) (ansPkS p iss 3, [.own [.v (.string k), .v (.int .i64 svc)], .row n 2 f, .row m 2 h, .vec true 47 2 (1 + m) (ansC (sealS k x y (ansNt p iss ex now)) m h)]) (noPkV (ansE lsZ k svc p n f x y iss ex now m h), [.own [.v (.string k), .v (.int .i64 svc)], .row n 2 f, .row m 2 h])) hc hk (all_one ha.1) hmm (ansF_op (seal_size _ _ _ _) ha hmm)
        (fun e he h0 => .inr ⟨fun hz => h0 (he.symm.trans hz), by rw [he]⟩) (fun he => .inl ⟨he, rfl⟩) (answer_run lsZ k svc p x y iss ex now n m f h)
      with_reducible exact h1
    · cases ht
  · rename_i l n f m h
    simp only [Option.bind_eq_some_iff] at ht
    obtain ⟨⟨p, o, x, y, iss, ex, u, now⟩, hp, ht⟩ := ht
    have hl := askOf_ok hp
    split at ht
    · rename_i ho hu
      simp only at ho hu
      subst ho hu
      simp only [Option.some.injEq] at ht
      subst ht
      have hv' : SV.tos B [.v (.pointer none), askS p (.ref 0) x y iss ex (.ref 1) now] = some vs := by
        have := hv
        simp only [SV.tos] at this ⊢
        have e := (agg_open B l).symm.trans (congrArg (SV.to B) hl)
        rw [← e]; exact this
      refine canT_ok CLa_ok follows Tryz.func9 (by kernel_rfl) (lexAllF_ok (by kernel_rfl)) (noloops (by kernel_rfl)) (answerNil_run lsZ p x y iss ex now n m f h) hm hv' ?_
      have hq : Qs (noPkV 10, [.row n 2 f, .row m 2 h]) := hq
      refine t_ite (fun _ => t_leaf ?_) fun h => by cases h
      exact hq
    · cases ht
  · cases ht
set_option maxRecDepth 100000 in
theorem fRAns_ok : EntryOk Tryz.prog 11 (fRAns ansY) := by
  intro ss H t ht bs B w vs hm hv Qs hq
  unfold fRAns at ht
  split at ht
  · rename_i k svc l x y iss ex now n f m h
    simp only [Option.bind_eq_some_iff] at ht
    obtain ⟨⟨p, o⟩, hp, ht⟩ := ht
    have hl := pkOf_ok hp
    split at ht
    · rename_i ho
      simp only at ho
      subst ho
      simp only [Option.some.injEq] at ht
      subst ht
      obtain ⟨⟨⟨hc, hk⟩, ha, hmm⟩, hq1, hq2⟩ := hq
      have hv' : SV.tos B [.v (.string k), .v (.int .i64 svc), p.s (.ref 0), .v (.agg #[.int .i64 x, .int .i64 y]), .v (.int .i64 iss), .v (.string ex), .ref 1, .v (.int .i64 now)] = some vs := by
        have := hv
        simp only [SV.tos] at this ⊢
        have e := (agg_open B l).symm.trans (congrArg (SV.to B) hl)
        rw [← e]; exact this
      refine pad_ok (cg := ansE lsZ k svc p n f x y iss ex now m h = 0) (g := (ansPkS p iss 2, [.row n 2 f, .row m 2 h, .vec false 47 2 (1 + m) (ansC (sealS k x y (ansNt p iss ex now)) m h)])) (b := (noPkV (ansE lsZ k svc p n f x y iss ex now m h), [.row n 2 f, .row m 2 h])) (fun he => hq1 (decide_eq_true he)) (fun he => hq2 (decide_eq_false he))
        (canT_ok (Qs := PadQ _ _ _) CLa_ok follows Tryz.func11 (by kernel_rfl) (lexAllF_ok (by kernel_rfl)) (noloops (by kernel_rfl)) (ranswer_run lsZ k svc p x y iss ex now n m f h) hm hv' ?_)
      have h1 := ranswer_tree lsZ k svc p x y iss ex now n m f h (Qs := PadQ (ansE lsZ k svc p n f x y iss ex now m h = 0) (ansPkS p iss 2, [.row n 2 f, .row m 2 h, .vec false 47 2 (1 + m) (ansC (sealS k x y (ansNt p iss ex now)) m h)]) (noPkV (ansE lsZ k svc p n f x y iss ex now m h), [.row n 2 f, .row m 2 h])) hc hk (all_one ha.1) hmm (ansF_op (seal_size _ _ _ _) ha hmm)
        (fun e he h0 => .inr ⟨fun hz => h0 (he.symm.trans hz), by rw [he]⟩) (fun he => .inl ⟨he, rfl⟩) (ranswer_run lsZ k svc p x y iss ex now n m f h)
      with_reducible exact h1
    · cases ht
  · cases ht
end Go.Proofs.YtjjnolpkifhbnaaGreat
