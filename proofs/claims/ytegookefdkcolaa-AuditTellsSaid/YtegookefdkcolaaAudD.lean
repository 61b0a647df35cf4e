/- Audit: views; sums: trees. No conditions. -/
import Derived.Test.YtegookefdkcolaaAudC
namespace Go.Proofs.Ytegookefdkcolaa
set_option linter.unusedVariables false
set_option linter.unusedSimpArgs false
open Go.RowKit Sym Go.ChangeShapes Go.WideShapes Go.ChangeMaps

/-- a view, with what its slices hold -/
structure VwR where
  st : Int
  multi : Bool
  now : Int
  queue : Int
  waits : Int
  ready : Int
  control : Int
  outs : Int
  came : Int
  refused : Int
  spilled : Int
  given : Int
  skipped : Int
  n : Nat
  f : Nat → Nat → Value
  k : Nat
  g : Nat → Nat → Value
  l : Nat
  h : Nat → Nat → Value
def VwR.v (v : VwR) (a b c : Value) : Value := .agg #[.int .i64 v.st, .bool v.multi, .int .i64 v.now, a, b, c, .int .i64 v.queue, .int .i64 v.waits, .int .i64 v.ready, .int .i64 v.control, .int .i64 v.outs, .int .i64 v.came, .int .i64 v.refused, .int .i64 v.spilled, .int .i64 v.given, .int .i64 v.skipped]
abbrev VwR.s (v : VwR) (a b c : SV) : SV := .agg [.v (.int .i64 v.st), .v (.bool v.multi), .v (.int .i64 v.now), a, b, c, .v (.int .i64 v.queue), .v (.int .i64 v.waits), .v (.int .i64 v.ready), .v (.int .i64 v.control), .v (.int .i64 v.outs), .v (.int .i64 v.came), .v (.int .i64 v.refused), .v (.int .i64 v.spilled), .v (.int .i64 v.given), .v (.int .i64 v.skipped)]
abbrev VwR.rows (v : VwR) : List Blk := [.row v.n 9 v.f, .row v.k 1 v.g, .row v.l 1 v.h]
def vInt : SV → Option Int | .v (.int .i64 z) => some z | _ => none
def vBool : SV → Option Bool | .v (.bool b) => some b | _ => none
theorem vInt_ok {s : SV} {z : Int} (h : vInt s = some z) : s = .v (.int .i64 z) := by
  unfold vInt at h
  split at h
  · simp only [Option.some.injEq] at h; subst h; rfl
  · cases h
theorem vBool_ok {s : SV} {z : Bool} (h : vBool s = some z) : s = .v (.bool z) := by
  unfold vBool at h
  split at h
  · simp only [Option.some.injEq] at h; subst h; rfl
  · cases h
def vwOf (H : List Blk) : List SV → Option (VwR × SV × SV × SV)
  | [a, b, c, p, q, r, d, e, f, g, h, i, j, k, l, m] => (vInt a).bind fun a => (vBool b).bind fun b => (vInt c).bind fun c => (vInt d).bind fun d => (vInt e).bind fun e => (vInt f).bind fun f => (vInt g).bind fun g => (vInt h).bind fun h => (vInt i).bind fun i => (vInt j).bind fun j => (vInt k).bind fun k => (vInt l).bind fun l => (vInt m).bind fun m =>
    (rowIn 9 H p).bind fun x => (rowIn 1 H q).bind fun y => (rowIn 1 H r).bind fun z => some (⟨a, b, c, d, e, f, g, h, i, j, k, l, m, x.1, x.2, y.1, y.2, z.1, z.2⟩, p, q, r)
  | _ => none
theorem vwOf_ok {H : List Blk} {l : List SV} {v : VwR} {p q r : SV} (h : vwOf H l = some (v, p, q, r)) : SV.agg l = v.s p q r ∧ rowIn 9 H p = some (v.n, v.f) ∧ rowIn 1 H q = some (v.k, v.g) ∧ rowIn 1 H r = some (v.l, v.h) := by
  unfold vwOf at h
  split at h
  · simp only [Option.bind_eq_some_iff, Option.some.injEq, Prod.mk.injEq] at h
    obtain ⟨a, ha, b, hb, c, hc, d, hd, e, he, f, hf, g, hg, h, hh, i, hi, j, hj, k, hk, l, hl, m, hm, x, hx, y, hy, z, hz, rfl, rfl, rfl, rfl⟩ := h
    rw [vInt_ok ha, vBool_ok hb, vInt_ok hc, vInt_ok hd, vInt_ok he, vInt_ok hf, vInt_ok hg, vInt_ok hh, vInt_ok hi, vInt_ok hj, vInt_ok hk, vInt_ok hl, vInt_ok hm]
    exact ⟨rfl, hx, hy, hz⟩
  · cases h
def vwIn (H : List Blk) (s : SV) : Option VwR := (aggOf s).bind fun l => (vwOf H l).map (·.1)
/-- what a view is: a value whose slices hold what is told -/
def VwR.Is (v : VwR) (w : World) (u : Value) : Prop := ∃ a b c, u = v.v a b c ∧ (∀ B, BlkSat B w a (.row v.n 9 v.f)) ∧ (∀ B, BlkSat B w b (.row v.k 1 v.g)) ∧ ∀ B, BlkSat B w c (.row v.l 1 v.h)
theorem vwIn_ok {w0 : World} {bs : List Nat} {H : List Blk} {B : List Value} {w : World} (hm : Mem w0 bs H B w) {s : SV} {u : Value} (hs : s.to B = some u) {v : VwR} (h : vwIn H s = some v) : v.Is w u := by
  unfold vwIn at h
  simp only [Option.bind_eq_some_iff, Option.map_eq_some_iff] at h
  obtain ⟨l, hl, ⟨v', p, q, r⟩, hp, rfl⟩ := h
  obtain ⟨vs, hv, rfl⟩ := aggOf_ok hs hl
  obtain ⟨e, h1, h2, h3⟩ := vwOf_ok hp
  simp only [VwR.s, SV.agg.injEq] at e
  subst e
  obtain ⟨x0, r0, e0, v0, rfl⟩ := tos_cons hv
  obtain ⟨x1, r1, e1, v1, rfl⟩ := tos_cons v0
  obtain ⟨x2, r2, e2, v2, rfl⟩ := tos_cons v1
  obtain ⟨x3, r3, e3, v3, rfl⟩ := tos_cons v2
  obtain ⟨x4, r4, e4, v4, rfl⟩ := tos_cons v3
  obtain ⟨x5, r5, e5, v5, rfl⟩ := tos_cons v4
  obtain ⟨x6, r6, e6, v6, rfl⟩ := tos_cons v5
  obtain ⟨x7, r7, e7, v7, rfl⟩ := tos_cons v6
  obtain ⟨x8, r8, e8, v8, rfl⟩ := tos_cons v7
  obtain ⟨x9, r9, e9, v9, rfl⟩ := tos_cons v8
  obtain ⟨x10, r10, e10, v10, rfl⟩ := tos_cons v9
  obtain ⟨x11, r11, e11, v11, rfl⟩ := tos_cons v10
  obtain ⟨x12, r12, e12, v12, rfl⟩ := tos_cons v11
  obtain ⟨x13, r13, e13, v13, rfl⟩ := tos_cons v12
  obtain ⟨x14, r14, e14, v14, rfl⟩ := tos_cons v13
  obtain ⟨x15, r15, e15, v15, rfl⟩ := tos_cons v14
  obtain rfl := tos_nil v15
  simp only [SV.to, Option.some.injEq] at e0 e1 e2 e6 e7 e8 e9 e10 e11 e12 e13 e14 e15
  subst e0 e1 e2 e6 e7 e8 e9 e10 e11 e12 e13 e14 e15
  exact ⟨x3, x4, x5, rfl, rowIn_ok hm e3 h1, rowIn_ok hm e4 h2, rowIn_ok hm e5 h3⟩
/-- a function of a view -/
def rdV (pp : VwR → Prop) (r : VwR → Value) : List SV → List Blk → Option (List Prop × Value)
  | [s], H => (vwIn H s).bind fun v => some ([pp v], r v)
  | _, _ => none
theorem rdV_ok {P : Program} {k : FuncId} {pp : VwR → Prop} {r : VwR → Value} (hc : ∀ (v : VwR) (u : Value) (w : World), v.Is w u → pp v → Calls P k #[u] w fun e w' => e = .returned (r v) ∧ Below w.heap.size w w') : ReadOk P k (rdV pp r) := by
  intro ss H q x h bs B w vs hm hv hp
  unfold rdV at h
  split at h
  · simp only [Option.bind_eq_some_iff, Option.some.injEq, Prod.mk.injEq] at h
    obtain ⟨v, hr, rfl, rfl⟩ := h
    obtain ⟨x0, r0, e0, v0, rfl⟩ := tos_cons hv
    obtain rfl := tos_nil v0
    exact hc v x0 w (vwIn_ok hm e0 hr) (hp _ (List.mem_cons_self ..))
  · cases h
theorem mem_rows3 {w : World} {u v x : Value} {n m l sz tz rz : Nat} {f g k : Nat → Nat → Value} (h : ∀ B, BlkSat B w u (.row n sz f)) (h' : ∀ B, BlkSat B w v (.row m tz g)) (h2 : ∀ B, BlkSat B w x (.row l rz k)) : Mem w [] [.row n sz f, .row m tz g, .row l rz k] [u, v, x] w := by
  have noex : ∀ i b, ¬ ExBlk [.row n sz f, .row m tz g, .row l rz k] [u, v, x] i b := by
    rintro i b ⟨x, y, g1, g2, -, -⟩
    match i with
    | 0 => simp only [List.getElem?_cons_zero, Option.some.injEq] at g1; subst g1; cases g2
    | 1 => simp only [List.getElem?_cons_succ, List.getElem?_cons_zero, Option.some.injEq] at g1; subst g1; cases g2
    | 2 => simp only [List.getElem?_cons_succ, List.getElem?_cons_zero, Option.some.injEq] at g1; subst g1; cases g2
    | i + 3 => simp at g1
  refine ⟨⟨rfl, fun i a y h1 h3 => ?_, fun i j b h1 h2 => absurd h1 (noex i b), fun i j b h1 h2 => absurd h1 (noex i b)⟩, .refl _ _, fun i b h1 => absurd h1 (noex i b)⟩
  match i with
  | 0 => simp only [List.getElem?_cons_zero, Option.some.injEq] at h1 h3; subst h1; subst h3; exact h _
  | 1 => simp only [List.getElem?_cons_succ, List.getElem?_cons_zero, Option.some.injEq] at h1 h3; subst h1; subst h3; exact h' _
  | 2 => simp only [List.getElem?_cons_succ, List.getElem?_cons_zero, Option.some.injEq] at h1 h3; subst h1; subst h3; exact h2 _
  | i + 3 => simp at h1
/-! sums -/
def LSm (P : Program) (fn : Func) : Nat → St → Option (T (Ex × St)) := addL 0 (unrollB (runC P (onlyS P noS) noL fn.ntmps (loopAt fn 0)) 0 7) noL
set_option maxRecDepth 100000 in
theorem sums_run (v : VwR) : runO Try.prog (onlyS Try.prog noS) (LSm Try.prog Try.f18) Try.f18 [v.s (.ref 0) (.ref 1) (.ref 2)] v.rows = T.ite (decide ((if v.13 < if v.12 < if v.11 < if v.10 < v.9 then v.10 else v.9 then v.11 else if v.10 < v.9 then v.10 else v.9 then v.12 else if v.11 < if v.10 < v.9 then v.10 else v.9 then v.11 else if v.10 < v.9 then v.10 else v.9 then v.13 else if v.12 < if v.11 < if v.10 < v.9 then v.10 else v.9 then v.11 else if v.10 < v.9 then v.10 else v.9 then v.12 else if v.11 < if v.10 < v.9 then v.10 else v.9 then v.11 else if v.10 < v.9 then v.10 else v.9) < (0 : Int))) (T.leaf (Value.bool false)) (T.ite true (T.need ((0 : Int) ≤ (0 : Int) ∧ (0 : Int) < (5 : Int)) (T.need ((0 : Nat) < (5 : Nat)) (T.ite (decide (v.10 > v.9)) (T.leaf (Value.bool false)) (T.ite true (T.need ((0 : Int) ≤ (1 : Int) ∧ (1 : Int) < (5 : Int)) (T.need ((1 : Nat) < (5 : Nat)) (T.ite (decide (v.12 > IntKind.i64.wrap (v.9 - v.10))) (T.leaf (Value.bool false)) (T.ite true (T.need ((0 : Int) ≤ (2 : Int) ∧ (2 : Int) < (5 : Int)) (T.need ((2 : Nat) < (5 : Nat)) (T.ite (decide (v.11 > IntKind.i64.wrap (IntKind.i64.wrap (v.9 - v.10) - v.12))) (T.leaf (Value.bool false)) (T.ite true (T.need ((0 : Int) ≤ (3 : Int) ∧ (3 : Int) < (5 : Int)) (T.need ((3 : Nat) < (5 : Nat)) (T.ite (decide (v.6 > IntKind.i64.wrap (IntKind.i64.wrap (IntKind.i64.wrap (v.9 - v.10) - v.12) - v.11))) (T.leaf (Value.bool false)) (T.ite true (T.need ((0 : Int) ≤ (4 : Int) ∧ (4 : Int) < (5 : Int)) (T.need ((4 : Nat) < (5 : Nat)) (T.ite (decide (v.5 > IntKind.i64.wrap (IntKind.i64.wrap (IntKind.i64.wrap (IntKind.i64.wrap (v.9 - v.10) - v.12) - v.11) - v.6))) (T.leaf (Value.bool false)) (T.ite false (T.need ((0 : Int) ≤ (5 : Int) ∧ (5 : Int) < (5 : Int)) (T.need ((5 : Nat) < (5 : Nat)) (T.stuck (61 : Nat)))) (T.leaf (Value.bool (decide (IntKind.i64.wrap (IntKind.i64.wrap (IntKind.i64.wrap (IntKind.i64.wrap (IntKind.i64.wrap (v.9 - v.10) - v.12) - v.11) - v.6) - v.5) = (0 : Int))))))))) (T.leaf (Value.bool (decide (IntKind.i64.wrap (IntKind.i64.wrap (IntKind.i64.wrap (IntKind.i64.wrap (v.9 - v.10) - v.12) - v.11) - v.6) = (0 : Int))))))))) (T.leaf (Value.bool (decide (IntKind.i64.wrap (IntKind.i64.wrap (IntKind.i64.wrap (v.9 - v.10) - v.12) - v.11) = (0 : Int))))))))) (T.leaf (Value.bool (decide (IntKind.i64.wrap (IntKind.i64.wrap (v.9 - v.10) - v.12) = (0 : Int))))))))) (T.leaf (Value.bool (decide (IntKind.i64.wrap (v.9 - v.10) = (0 : Int))))))))) (T.leaf (Value.bool (decide (v.9 = (0 : Int)))))) := by kernel_rfl
def to_st (n : Nat) (g : Nat → Int) (s i : Int) : St := ⟨[(0, some (.v (.int .i64 s))), (1, some (.ref 0)), (5, some (.v (.int .i64 i)))], [rowI n g]⟩
set_option maxRecDepth 100000 in
theorem to_round (n : Nat) (g : Nat → Int) (s i : Int) : roundM Try.prog (onlyS Try.prog noS) noL Try.f22.ntmps 0 (loopAt Try.f22 0) 1 [0, 1, 5] [] [] (to_st n g s i) = T.ite (decide (i < (↑n : Int))) (T.need ((0 : Int) ≤ i ∧ i < (↑n : Int)) (T.need (i.toNat < n) (T.ite (decide (g i.toNat < (0 : Int))) (T.leaf (Ex.ret, St.mk [((4 : Nat), some SV.ff), ((24 : Nat), some SV.tt), ((23 : Nat), some (SV.v (Value.tuple (Array.mk [])))), ((22 : Nat), some (SV.v (Value.tuple (Array.mk [])))), ((21 : Nat), some (SV.v (Value.tuple (Array.mk [])))), ((20 : Nat), some (SV.v (Value.tuple (Array.mk [])))), ((19 : Nat), some (SV.v (Value.tuple (Array.mk [])))), ((18 : Nat), some (SV.v (Value.tuple (Array.mk [])))), ((17 : Nat), some SV.tt), ((16 : Nat), some (SV.v (Value.bool (decide (g i.toNat < (0 : Int)))))), ((15 : Nat), some (SV.v (Value.int IntKind.i64 (g i.toNat)))), ((14 : Nat), some (SV.elt (0 : Nat) (1 : Nat) i.toNat (0 : Nat))), ((13 : Nat), some (SV.v (Value.int IntKind.i64 i))), ((12 : Nat), some (SV.ref (0 : Nat))), ((9 : Nat), some SV.tt), ((9 : Nat), some (SV.v (Value.bool (decide (i < (↑n : Int)))))), ((8 : Nat), some (SV.v (Value.int IntKind.i64 (↑n : Int)))), ((7 : Nat), some (SV.ref (0 : Nat))), ((6 : Nat), some (SV.v (Value.int IntKind.i64 i))), ((0 : Nat), some (SV.v (Value.int IntKind.i64 s))), ((1 : Nat), some (SV.ref (0 : Nat))), ((5 : Nat), some (SV.v (Value.int IntKind.i64 i)))] [Blk.row n (1 : Nat) fun i x => Value.int IntKind.i64 (g i)])) (T.need ((0 : Int) ≤ i ∧ i < (↑n : Int)) (T.need (i.toNat < n) (T.ite (decide (s < g i.toNat)) (T.leaf (Ex.ret, St.mk [((4 : Nat), some SV.ff), ((24 : Nat), some SV.tt), ((24 : Nat), some (SV.v (Value.bool (decide (s < g i.toNat))))), ((23 : Nat), some (SV.v (Value.bool (decide (s < g i.toNat))))), ((22 : Nat), some (SV.v (Value.int IntKind.i64 (g i.toNat)))), ((21 : Nat), some (SV.elt (0 : Nat) (1 : Nat) i.toNat (0 : Nat))), ((20 : Nat), some (SV.v (Value.int IntKind.i64 i))), ((19 : Nat), some (SV.ref (0 : Nat))), ((18 : Nat), some (SV.v (Value.int IntKind.i64 s))), ((17 : Nat), some SV.ff), ((16 : Nat), some (SV.v (Value.bool (decide (g i.toNat < (0 : Int)))))), ((15 : Nat), some (SV.v (Value.int IntKind.i64 (g i.toNat)))), ((14 : Nat), some (SV.elt (0 : Nat) (1 : Nat) i.toNat (0 : Nat))), ((13 : Nat), some (SV.v (Value.int IntKind.i64 i))), ((12 : Nat), some (SV.ref (0 : Nat))), ((9 : Nat), some SV.tt), ((9 : Nat), some (SV.v (Value.bool (decide (i < (↑n : Int)))))), ((8 : Nat), some (SV.v (Value.int IntKind.i64 (↑n : Int)))), ((7 : Nat), some (SV.ref (0 : Nat))), ((6 : Nat), some (SV.v (Value.int IntKind.i64 i))), ((0 : Nat), some (SV.v (Value.int IntKind.i64 s))), ((1 : Nat), some (SV.ref (0 : Nat))), ((5 : Nat), some (SV.v (Value.int IntKind.i64 i)))] [Blk.row n (1 : Nat) fun i x => Value.int IntKind.i64 (g i)])) (T.need ((0 : Int) ≤ i ∧ i < (↑n : Int)) (T.need (i.toNat < n) (T.leaf (Ex.normal, St.mk [((0 : Nat), some (SV.v (Value.int IntKind.i64 (IntKind.i64.wrap (s - g i.toNat))))), ((1 : Nat), some (SV.ref (0 : Nat))), ((5 : Nat), some (SV.v (Value.int IntKind.i64 (IntKind.i64.wrap (i + (1 : Int))))))] [Blk.row n (1 : Nat) fun i x => Value.int IntKind.i64 (g i)])))))))))) (T.leaf (Ex.exit (0 : Nat), St.mk [((0 : Nat), some (SV.v (Value.int IntKind.i64 s))), ((1 : Nat), some (SV.ref (0 : Nat))), ((5 : Nat), some (SV.v (Value.int IntKind.i64 i)))] [Blk.row n (1 : Nat) fun i x => Value.int IntKind.i64 (g i)])) := by kernel_rfl
def Lto (P : Program) (fn : Func) (n : Nat) (g : Nat → Int) (s z : Int) (e : Nat) : Nat → St → Option (T (Ex × St)) :=
  addL 0 (fun st => .need (st.H.length = 1) (.need (st.tidy 1 [0, 1, 5] [] [] = to_st n g s ((0 : Nat) : Int)) ((roundM P (onlyS P noS) noL fn.ntmps 0 (loopAt fn 0) 1 [0, 1, 5] [] [] (closeAt [] (to_st n g z ((e : Nat) : Int)))).bind (lastX 0)))) noL
set_option maxRecDepth 100000 in
theorem to_run (n : Nat) (g : Nat → Int) (s z : Int) (e : Nat) : runO Try.prog (onlyS Try.prog noS) (Lto Try.prog Try.f22 n g s z e) Try.f22 [.v (.int .i64 s), .ref 0] [rowI n g] = T.need ((1 : Nat) = (1 : Nat)) (T.need (St.mk [((0 : Nat), some (SV.v (Value.int IntKind.i64 s))), ((1 : Nat), some (SV.ref (0 : Nat))), ((5 : Nat), some (SV.v (Value.int IntKind.i64 (0 : Int))))] [Blk.row n (1 : Nat) fun i x => Value.int IntKind.i64 (g i)] = to_st n g s (0 : Int)) (T.ite (decide ((↑e : Int) < (↑n : Int))) (T.need ((0 : Int) ≤ (↑e : Int) ∧ (↑e : Int) < (↑n : Int)) (T.need ((↑e : Int).toNat < n) (T.ite (decide (g (↑e : Int).toNat < (0 : Int))) (T.leaf (Value.bool false)) (T.need ((0 : Int) ≤ (↑e : Int) ∧ (↑e : Int) < (↑n : Int)) (T.need ((↑e : Int).toNat < n) (T.ite (decide (z < g (↑e : Int).toNat)) (T.leaf (Value.bool false)) (T.need ((0 : Int) ≤ (↑e : Int) ∧ (↑e : Int) < (↑n : Int)) (T.need ((↑e : Int).toNat < n) (T.stuck (39 : Nat)))))))))) (T.leaf (Value.bool (decide (z = (0 : Int))))))) := by kernel_rfl
end Go.Proofs.Ytegookefdkcolaa
