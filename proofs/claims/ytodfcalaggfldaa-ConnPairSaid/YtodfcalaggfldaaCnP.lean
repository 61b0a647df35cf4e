/- Two sides of a connection: what their functions' callees answer where all goes well. No conditions. -/
import Derived.Test.YtodfcalaggfldaaCnA
namespace Go.Proofs.Ytodfcalaggfldaa
set_option linter.unusedVariables false
set_option linter.unusedSimpArgs false
open Go.RowKit Sym Go.ChangeShapes Go.WideShapes Go.ChangeMaps

def CkPL (p : Pk) (n : Nat) (f : Nat → Nat → Value) : Prop := OpP n f ∧ p.data.size ≤ 1000000
/-- where a number is nought -/
def fZero (h : List SV → List Blk → Option (List Prop × Value)) : List SV → List Blk → Option (T (SV × List Blk)) := fun ss H => match h (ss.map openS) H with
  | some (p, v) => some (needs p (.need (v = .int .i64 0) (.leaf (.c (.int .i64 0), H))))
  | none => none
def fTrue (h : List SV → List Blk → Option (List Prop × Value)) : List SV → List Blk → Option (T (SV × List Blk)) := fun ss H => match h (ss.map openS) H with
  | some (p, v) => some (needs p (.need (v = .bool true) (.leaf (.tt, H))))
  | none => none
theorem fZero_ok {P : Program} {k : FuncId} {h : List SV → List Blk → Option (List Prop × Value)} (hh : ReadOk P k h) : EntryOk P k (fZero h) := by
  intro ss H t ht bs B w vs hm hv Qs hq
  unfold fZero at ht
  split at ht
  · rename_i p v hpv
    simp only [Option.some.injEq] at ht
    subst ht
    obtain ⟨h1, h2, h3⟩ := needs_ok hq
    subst h2
    refine (hh _ H p _ hpv bs B w vs hm (by rw [opens_tos]; exact hv) h1).mono ?_
    rintro e w' ⟨rfl, hb⟩
    exact ⟨_, _, B, _, h3, List.prefix_refl _, rfl, rfl, hm.below hb⟩
  · cases ht
theorem fTrue_ok {P : Program} {k : FuncId} {h : List SV → List Blk → Option (List Prop × Value)} (hh : ReadOk P k h) : EntryOk P k (fTrue h) := by
  intro ss H t ht bs B w vs hm hv Qs hq
  unfold fTrue at ht
  split at ht
  · rename_i p v hpv
    simp only [Option.some.injEq] at ht
    subst ht
    obtain ⟨h1, h2, h3⟩ := needs_ok hq
    subst h2
    refine (hh _ H p _ hpv bs B w vs hm (by rw [opens_tos]; exact hv) h1).mono ?_
    rintro e w' ⟨rfl, hb⟩
    exact ⟨_, _, B, _, h3, List.prefix_refl _, rfl, rfl, hm.below hb⟩
  · cases ht
/-- a function that only computes, as one that reads -/
def rdV (t : List Value → Option (List Prop × Value)) : List SV → List Blk → Option (List Prop × Value) := fun ss _ => (plains ss).bind t
theorem rdV_ok {P : Program} {k : FuncId} {t : List Value → Option (List Prop × Value)} (ht : ∀ xs p v, t xs = some (p, v) → (∀ q ∈ p, q) → ∀ w, Calls P k xs.toArray w fun e w' => e = .returned v ∧ Below w.heap.size w w') : ReadOk P k (rdV t) := by
  intro ss H p v h bs B w vs hm hv hp
  unfold rdV at h
  rw [Option.bind_eq_some_iff] at h
  obtain ⟨xs, h1, h2⟩ := h
  have e : vs = xs := by
    have := plains_to (B := B) h1
    rw [hv, Option.some.injEq] at this
    exact this
  subst e
  exact ht _ p v h2 hp w
def fAcks : List SV → List Blk → Option (T (SV × List Blk))
  | [.c (.int .i64 k)], H => some (.leaf (bif Head.acks k then .tt else .ff, H))
  | _, _ => none
theorem fAcks_ok : EntryOk Try.prog 74 fAcks := by
  intro ss H t ht bs B w vs hm hv Qs hq
  unfold fAcks at ht
  split at ht
  · rename_i k
    simp only [Option.some.injEq] at ht
    subst ht
    obtain ⟨x0, r0, e0, v0, rfl⟩ := tos_cons hv
    obtain rfl := tos_nil v0
    simp only [SV.to, Option.some.injEq] at e0
    subst e0
    refine (head_acks k w).mono ?_
    rintro e w' ⟨rfl, hb⟩
    refine ⟨_, _, B, _, hq, List.prefix_refl _, rfl, ?_, hm.below hb⟩
    cases Head.acks k <;> rfl
  · cases ht
def fBeg : List SV → List Blk → Option (T (SV × List Blk))
  | [.c (.int .i64 n)], H => some (.need (n = 8) (.leaf (.agg [.c (.int .i64 8), .c (.int .i64 8), .c (.int .i64 0)], H)))
  | _, _ => none
theorem fBeg_ok : EntryOk Try.prog 71 fBeg := by
  intro ss H t ht bs B w vs hm hv Qs hq
  unfold fBeg at ht
  split at ht
  · rename_i k
    simp only [Option.some.injEq] at ht
    subst ht
    obtain ⟨x0, r0, e0, v0, rfl⟩ := tos_cons hv
    obtain rfl := tos_nil v0
    simp only [SV.to, Option.some.injEq] at e0
    subst e0
    refine (boff_tab k hq.1 w).mono ?_
    rintro e w' ⟨rfl, hb⟩
    exact ⟨_, _, B, _, hq.2, List.prefix_refl _, rfl, rfl, hm.below hb⟩
  · cases ht
/-- where it does not wait -/
def fTk0 : List SV → List Blk → Option (T (SV × List Blk))
  | [s], H => match aggOf s with
    | some [.v (.int .i64 a), .v (.int .i64 b), .v (.int .i64 c)] => some (.need (a = 0 ∧ b = 0) (.leaf (.tup [.agg [.c (.int .i64 0), .c (.int .i64 0), .v (.int .i64 c)], .ff, .ff], H)))
    | _ => none
  | _, _ => none
theorem fTk0_ok : EntryOk Try.prog 42 fTk0 := by
  intro ss H t ht bs B w vs hm hv Qs hq
  unfold fTk0 at ht
  split at ht
  · rename_i s H
    split at ht
    · rename_i a b c hs
      simp only [Option.some.injEq] at ht
      subst ht
      obtain ⟨⟨rfl, rfl⟩, hq⟩ := hq
      obtain ⟨x0, r0, e0, v0, rfl⟩ := tos_cons hv
      obtain rfl := tos_nil v0
      obtain ⟨us, hu, rfl⟩ := aggOf_ok e0 hs
      simp only [SV.tos, SV.to, Option.some.injEq] at hu
      subst hu
      refine (tick_any 0 0 c w).mono ?_
      rintro e w' ⟨rfl, hb⟩
      refine ⟨_, _, B, _, hq, List.prefix_refl _, rfl, ?_, hm.below hb⟩
      rfl
    · cases ht
  · cases ht
/-! ### the queue that is handed on: of its packets' kinds it is told that they are known -/
def markC : SV → SV
  | .v (.int k z) => .c (.int k z)
  | .v (.bool true) => .tt
  | .v (.bool false) => .ff
  | .v (.slice none 0 0) => .c (.slice none 0 0)
  | s => s
theorem markC_to (B : List Value) (s : SV) : (markC s).to B = s.to B := by
  unfold markC
  split <;> rfl
/-- of a connection and of a packet: what is known of them is taken as known -/
def closeCells : List SV → List SV
  | [c0, c1, c2, c3, c4, c5, c6, c7, c8, c9, c10, c11, c12, c13, c14, c15] => [markC c0, markC c1, c2, c3, c4, c5, c6, markC c7, markC c8, markC c9, markC c10, markC c11, markC c12, markC c13, markC c14, markC c15]
  | [c0, c1, c2, c3, c4, c5, c6, c7, c8, c9, c10, c11, c12] => [markC c0, markC c1, c2, c3, c4, c5, c6, c7, markC c8, c9, c10, markC c11, c12]
  | l => l
theorem closeCells_tos (B : List Value) (l : List SV) : SV.tos B (closeCells l) = SV.tos B l := by
  unfold closeCells
  split
  · simp only [SV.tos, markC_to]
  · simp only [SV.tos, markC_to]
  · rfl
def closeArg : SV → SV
  | .agg l => .agg (closeCells l)
  | .v (.agg ⟨l⟩) => .agg (closeCells (l.map .v))
  | s => s
theorem closeArg_to (B : List Value) (s : SV) : (closeArg s).to B = s.to B := by
  unfold closeArg
  split
  · simp only [SV.to, closeCells_tos]
  · simp only [SV.to, closeCells_tos, tos_plain]; rfl
  · rfl
def closeB : Blk → Blk
  | .own cells => .own (closeCells cells)
  | b => b
theorem closeB_excl (x : Blk) : (closeB x).excl = x.excl := by cases x <;> rfl
theorem closeB_row {x : Blk} {n sz : Nat} {f : Nat → Nat → Value} (h : closeB x = .row n sz f) : x = .row n sz f := by cases x <;> first | exact h | cases h
theorem closeB_sat {B : List Value} {w : World} {u : Value} {x : Blk} (h : BlkSat B w u x) : BlkSat B w u (closeB x) := by
  cases x with
  | own cells =>
    obtain ⟨b, vs, h1, h2, h3⟩ := h
    exact ⟨b, vs, h1, by rw [closeCells_tos]; exact h2, h3⟩
  | _ => exact h
theorem closeB_mem {w0 : World} {bs : List Nat} {H : List Blk} {B : List Value} {w : World} (h : Mem w0 bs H B w) : Mem w0 bs (H.map closeB) B w := by
  have get : ∀ {k : Nat} {x : Blk}, (H.map closeB)[k]? = some x → ∃ y, H[k]? = some y ∧ x = closeB y := by
    intro k x hk
    rw [List.getElem?_map, Option.map_eq_some_iff] at hk
    obtain ⟨y, hy, rfl⟩ := hk
    exact ⟨y, hy, rfl⟩
  have ex : ∀ k b, ExBlk (H.map closeB) B k b → ExBlk H B k b := by
    rintro k b ⟨x, u, h1, h2, h3, h4⟩
    obtain ⟨y, hy, rfl⟩ := get h1
    exact ⟨y, u, hy, by rw [← closeB_excl]; exact h2, h3, h4⟩
  have rd : ∀ k b, RdBlk (H.map closeB) B k b → RdBlk H B k b := by
    rintro k b ⟨n, sz, f, u, h1, h2, h3, h4, h5⟩
    obtain ⟨y, hy, e⟩ := get h1
    exact ⟨n, sz, f, u, by rw [hy, closeB_row e.symm], h2, h3, h4, h5⟩
  refine ⟨⟨by simp [h.sat.len], fun k x u hk hu => ?_, fun k j b h1 h2 => h.sat.sep k j b (ex _ _ h1) (ex _ _ h2), fun k j b h1 h2 => h.sat.far k j b (ex _ _ h1) (rd _ _ h2)⟩, h.keeps, fun k b h1 => h.good k b (ex _ _ h1)⟩
  obtain ⟨y, hy, rfl⟩ := get hk
  exact closeB_sat (h.sat.blk k y u hy hu)
def closeE (h : List SV → List Blk → Option (T (SV × List Blk))) : List SV → List Blk → Option (T (SV × List Blk)) := fun ss H => h (ss.map closeArg) (H.map closeB)
theorem closeArgs_tos (B : List Value) : ∀ l : List SV, SV.tos B (l.map closeArg) = SV.tos B l
  | [] => rfl
  | s :: l => by simp only [List.map_cons, SV.tos, closeArg_to, closeArgs_tos B l]
theorem closeE_ok {P : Program} {k : FuncId} {h : List SV → List Blk → Option (T (SV × List Blk))} (hh : EntryOk P k h) : EntryOk P k (closeE h) :=
  fun ss H t ht bs B w vs hm hv Qs hq => hh _ _ t ht bs B w vs (closeB_mem hm) (by rw [closeArgs_tos]; exact hv) Qs hq
def mark13 : List SV → List SV
  | a :: b :: c :: d :: e :: f :: g :: h :: i :: j :: k :: o :: m :: l => markC a :: markC b :: c :: d :: e :: f :: g :: h :: i :: j :: k :: o :: m :: mark13 l
  | l => l
theorem mark13_tos (B : List Value) : ∀ l : List SV, SV.tos B (mark13 l) = SV.tos B l
  | a :: b :: c :: d :: e :: f :: g :: h :: i :: j :: k :: o :: m :: l => by
    simp only [mark13, SV.tos, markC_to, mark13_tos B l]
  | [] | [_] | [_, _] | [_, _, _] | [_, _, _, _] | [_, _, _, _, _] | [_, _, _, _, _, _] | [_, _, _, _, _, _, _] | [_, _, _, _, _, _, _, _] | [_, _, _, _, _, _, _, _, _] | [_, _, _, _, _, _, _, _, _, _] | [_, _, _, _, _, _, _, _, _, _, _] | [_, _, _, _, _, _, _, _, _, _, _, _] => rfl
abbrev CNil (P : Program) : Cfg := both P noS noF []
set_option maxRecDepth 100000 in
theorem outs_run (c0 c1 c2 c3 c4 c5 c6 c7 c8 c9 c10 c11 c12 c13 c14 : SV) (e : TypeId) (n : Nat) (l : List SV) : runF Try.prog (CNil Try.prog) noL Try.f8 (Try.f8.body.getD .skip) [.ptr 0 0] [.own [c0, c1, c2, c3, c4, c5, c6, c7, c8, c9, c10, c11, c12, c13, c14, .ref 1], .lst e 13 n l] = .leaf (SV.ref 1, [.own [c0, c1, c2, c3, c4, c5, c6, c7, c8, c9, c10, c11, c12, c13, c14, SV.c (Value.slice none 0 0)], Blk.lst e 13 n l]) := by kernel_rfl
set_option maxRecDepth 100000 in
theorem outs0_run (c0 c1 c2 c3 c4 c5 c6 c7 c8 c9 c10 c11 c12 c13 c14 : SV) : runF Try.prog (CNil Try.prog) noL Try.f8 (Try.f8.body.getD .skip) [.ptr 0 0] [.own [c0, c1, c2, c3, c4, c5, c6, c7, c8, c9, c10, c11, c12, c13, c14, .v (.slice none 0 0)]] = .leaf (SV.v (Value.slice none 0 0), [.own [c0, c1, c2, c3, c4, c5, c6, c7, c8, c9, c10, c11, c12, c13, c14, SV.c (Value.slice none 0 0)]]) := by kernel_rfl
theorem CNil_ok : CfgOk Try.prog (CNil Try.prog) := both_ok noS_ok noF_ok
theorem outs_ok : EntryOk Try.prog 8 (inl Try.prog (CNil Try.prog) noL Try.f8) := inl_ok CNil_ok follows Try.func8 (by kernel_rfl) (lexAllF_ok (by kernel_rfl)) (noloops (by kernel_rfl))
def fOuts : List SV → List Blk → Option (T (SV × List Blk))
  | [.ptr 0 0], [.own [c0, c1, c2, c3, c4, c5, c6, c7, c8, c9, c10, c11, c12, c13, c14, .ref 1], .lst e 13 n l] => some (.leaf (.ref 1, [.own [c0, c1, c2, c3, c4, c5, c6, c7, c8, c9, c10, c11, c12, c13, c14, .c (.slice none 0 0)], .lst e 13 n (mark13 l)]))
  | [.ptr 0 0], [.own [c0, c1, c2, c3, c4, c5, c6, c7, c8, c9, c10, c11, c12, c13, c14, .ref 1], .vec _ e 13 n xs] => some (.leaf (.ref 1, [.own [c0, c1, c2, c3, c4, c5, c6, c7, c8, c9, c10, c11, c12, c13, c14, .c (.slice none 0 0)], .lst e 13 n (mark13 (xs.map .v))]))
  | [.ptr 0 0], [.own [c0, c1, c2, c3, c4, c5, c6, c7, c8, c9, c10, c11, c12, c13, c14, s]] => bif isNilS (some s) then some (.leaf (.c (.slice none 0 0), [.own [c0, c1, c2, c3, c4, c5, c6, c7, c8, c9, c10, c11, c12, c13, c14, .c (.slice none 0 0)]])) else none
  | _, _ => none
theorem fOuts_ok : EntryOk Try.prog 8 fOuts := by
  intro ss H t ht bs B w vs hm hv Qs hq
  have key : ∀ {c0 c1 c2 c3 c4 c5 c6 c7 c8 c9 c10 c11 c12 c13 c14 : SV} {e : TypeId} {n : Nat} {l : List SV} {B : List Value} {Qs : SV × List Blk → Prop}, Mem w bs [.own [c0, c1, c2, c3, c4, c5, c6, c7, c8, c9, c10, c11, c12, c13, c14, .ref 1], .lst e 13 n l] B w → SV.tos B [.ptr 0 0] = some vs → Qs (.ref 1, [.own [c0, c1, c2, c3, c4, c5, c6, c7, c8, c9, c10, c11, c12, c13, c14, .c (.slice none 0 0)], .lst e 13 n (mark13 l)]) → Calls Try.prog 8 vs.toArray w fun e w' => ∃ s H' B' x, Qs (s, H') ∧ B <+: B' ∧ e = .returned x ∧ s.to B' = some x ∧ Mem w bs H' B' w' := by
    intro c0 c1 c2 c3 c4 c5 c6 c7 c8 c9 c10 c11 c12 c13 c14 e n l B Qs hm hv hq
    refine (outs_ok [.ptr 0 0] _ _ rfl bs B w vs hm hv (fun r => r = (.ref 1, [.own [c0, c1, c2, c3, c4, c5, c6, c7, c8, c9, c10, c11, c12, c13, c14, .c (.slice none 0 0)], .lst e 13 n l])) ?_).mono ?_
    · rw [outs_run c0 c1 c2 c3 c4 c5 c6 c7 c8 c9 c10 c11 c12 c13 c14 e n l]; rfl
    · rintro e' w' ⟨s, H', B', x, hQ, h1, h2, h3, h4⟩
      simp only [Prod.mk.injEq] at hQ
      obtain ⟨rfl, rfl⟩ := hQ
      obtain ⟨u, hu⟩ := h4.sat.getB (k := 1) rfl
      refine ⟨_, _, B', x, hq, h1, h2, h3, h4.upd (k := 1) (y := .lst e 13 n (mark13 l)) rfl rfl hu ⟨rfl, rfl, rfl, Nat.le_refl _, fun _ _ _ => rfl⟩ rfl ?_⟩
      obtain ⟨xs, g1, g2⟩ := h4.sat.blk 1 _ u rfl hu
      exact ⟨xs, by rw [mark13_tos]; exact g1, g2⟩
  unfold fOuts at ht
  split at ht
  · simp only [Option.some.injEq] at ht
    subst ht
    exact key hm hv hq
  · rename_i o e n xs
    simp only [Option.some.injEq] at ht
    subst ht
    obtain ⟨u, hu⟩ := hm.sat.getB (k := 1) rfl
    refine key (hm.upd (k := 1) (y := .lst e 13 n (xs.map .v)) rfl rfl hu ⟨rfl, rfl, rfl, Nat.le_refl _, fun _ _ _ => rfl⟩ rfl ?_) hv hq
    exact ⟨xs, tos_plain _ _, hm.sat.blk 1 _ u rfl hu⟩
  · rename_i c0 c1 c2 c3 c4 c5 c6 c7 c8 c9 c10 c11 c12 c13 c14 s
    cases hb : isNilS (some s)
    · rw [hb] at ht; cases ht
    · rw [hb, cond_true, Option.some.injEq] at ht
      subst ht
      obtain ⟨s', hs', hnil⟩ := nil_to hb
      simp only [Option.some.injEq] at hs'
      subst hs'
      obtain ⟨u, hu⟩ := hm.sat.getB (k := 0) rfl
      have hm1 := hm.upd (k := 0) (y := .own [c0, c1, c2, c3, c4, c5, c6, c7, c8, c9, c10, c11, c12, c13, c14, .v (.slice none 0 0)]) rfl rfl hu ⟨rfl, rfl, rfl, Nat.le_refl _, fun _ _ _ => rfl⟩ rfl (by
        obtain ⟨b, us, g1, g2, g3⟩ := hm.sat.blk 0 _ u rfl hu
        refine ⟨b, us, g1, ?_, g3⟩
        rw [← g2]
        simp only [SV.tos, SV.to, hnil])
      refine (outs_ok [.ptr 0 0] [.own [c0, c1, c2, c3, c4, c5, c6, c7, c8, c9, c10, c11, c12, c13, c14, .v (.slice none 0 0)]] _ rfl bs B w vs hm1 hv (fun r => r = (.v (.slice none 0 0), [.own [c0, c1, c2, c3, c4, c5, c6, c7, c8, c9, c10, c11, c12, c13, c14, .c (.slice none 0 0)]])) ?_).mono ?_
      · show T.ok _ (runF Try.prog (CNil Try.prog) noL Try.f8 (Try.f8.body.getD .skip) [.ptr 0 0] [.own [c0, c1, c2, c3, c4, c5, c6, c7, c8, c9, c10, c11, c12, c13, c14, .v (.slice none 0 0)]])
        rw [outs0_run c0 c1 c2 c3 c4 c5 c6 c7 c8 c9 c10 c11 c12 c13 c14]; rfl
      · rintro e' w' ⟨s1, H', B', x, hQ, h1, h2, h3, h4⟩
        simp only [Prod.mk.injEq] at hQ
        obtain ⟨rfl, rfl⟩ := hQ
        exact ⟨_, _, B', x, hq, h1, h2, h3, h4⟩
  · cases ht
/-! ### a function that only reads a letter, of which no other one's order hangs -/
def addG (k : FuncId) (h : List SV → (Nat → Option Blk) → Option SV) (G : GTab) : GTab := fun f ss g n => bif Nat.beq f k then (h ss g).map fun s => .leaf (s, noEff) else G f ss g n
theorem addG_ok {P : Program} {k : FuncId} {h : List SV → (Nat → Option Blk) → Option SV} {G : GTab} (hG : GOk P G) (hg : isGo P k = true)
    (hh : ∀ ss g s, h ss g = some s → ∀ (w0 : World) (bs : List Nat) (H : List Blk) (B : List Value) (w : World) (vs : List Value), Mem w0 bs H B w → (∀ k x, g k = some x → H[k]? = some x) → SV.tos B ss = some vs → Calls P k vs.toArray w fun e w' => ∃ x, s.to B = some x ∧ e = .returned x ∧ Below w.heap.size w w') : GOk P (addG k h G) := by
  intro f ss g n t ht
  unfold addG at ht
  cases hb : Nat.beq f k
  · rw [hb] at ht; exact hG f ss g n t ht
  · rw [hb, cond_true, Option.map_eq_some_iff] at ht
    obtain rfl : f = k := Nat.eq_of_beq_eq_true hb
    obtain ⟨s, hs, rfl⟩ := ht
    refine ⟨hg, fun w0 bs H B w vs hm hsee hn hv Qs hq => (hh ss g s hs w0 bs H B w vs hm hsee hv).mono ?_⟩
    rintro e w' ⟨x, h1, rfl, h2⟩
    exact ⟨s, noEff, B, x, hq, List.prefix_refl _, rfl, h1, hm.below h2⟩
theorem ending_any (cl : Bool) (b : Nat) (w : World) (h : w.cell? ⟨b, 0, none⟩ = some (.bool cl)) : Calls Try.prog 81 #[.pointer (some ⟨b, 0, none⟩)] w fun e w' => e = .returned (.int .i64 (if cl = true then 6 else 5)) ∧ w = w' := by
  cases cl <;> (go_enter Try.func81, Try.ntmps81; go_wp2; go_ret; exact ⟨rfl, rfl⟩)
def gEnding : List SV → (Nat → Option Blk) → Option SV
  | [.ptr k 0], g => (match g k with
    | some (.own (.tt :: _)) => some (.c (.int .i64 6))
    | some (.own (.ff :: _)) => some (.c (.int .i64 5))
    | _ => none)
  | _, _ => none
theorem gEnding_ok : ∀ ss g s, gEnding ss g = some s → ∀ (w0 : World) (bs : List Nat) (H : List Blk) (B : List Value) (w : World) (vs : List Value), Mem w0 bs H B w → (∀ k x, g k = some x → H[k]? = some x) → SV.tos B ss = some vs → Calls Try.prog 81 vs.toArray w fun e w' => ∃ x, s.to B = some x ∧ e = .returned x ∧ Below w.heap.size w w' := by
  intro ss g s h w0 bs H B w vs hm hsee hv
  have key : ∀ {k : Nat} {c : SV} {l : List SV} {cl : Bool}, H[k]? = some (.own (c :: l)) → c.to B = some (.bool cl) → SV.tos B [.ptr k 0] = some vs → Calls Try.prog 81 vs.toArray w fun e w' => e = .returned (.int .i64 (if cl = true then 6 else 5)) ∧ w = w' := by
    intro k c l cl hk hc hv
    obtain ⟨b, us, g1, g2, g3⟩ := hm.own_at hk
    obtain ⟨x0, r0, e0, v0, rfl⟩ := tos_cons hv
    obtain rfl := tos_nil v0
    simp only [SV.to, g1, Option.some.injEq] at e0
    subst e0
    obtain ⟨x1, r1, e1, v1, rfl⟩ := tos_cons g2
    rw [hc, Option.some.injEq] at e1
    subst e1
    exact ending_any cl b w (by have := g3.2.1 0; simpa using this)
  unfold gEnding at h
  split at h
  · rename_i k
    split at h
    · rename_i l hk
      simp only [Option.some.injEq] at h
      subst h
      refine (key (cl := true) (hsee _ _ hk) rfl hv).mono ?_
      rintro e w' ⟨rfl, rfl⟩
      exact ⟨_, rfl, rfl, Below.refl _ _⟩
    · rename_i l hk
      simp only [Option.some.injEq] at h
      subst h
      refine (key (cl := false) (hsee _ _ hk) rfl hv).mono ?_
      rintro e w' ⟨rfl, rfl⟩
      exact ⟨_, rfl, rfl, Below.refl _ _⟩
    · cases h
  · cases h
end Go.Proofs.Ytodfcalaggfldaa
