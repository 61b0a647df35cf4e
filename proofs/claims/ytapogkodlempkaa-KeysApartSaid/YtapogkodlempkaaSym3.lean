/- The symbolic evaluator: operations that leave memory as it is. No conditions. -/
import Derived.Test.YtapogkodlempkaaSym2
import Derived.Laws.StructEq
import Derived.Laws.Pointers
import Derived.Laws.Tables
namespace Go.Proofs.Ytapogkodlempkaa.Sym
set_option linter.unusedVariables false
set_option linter.unusedSimpArgs false
open Go.RowKit

/-- what is known of functions that only compute: under p, f of xs hands back v -/
abbrev Tab := FuncId → List Value → Option (T Value)
def needs {α : Type} (l : List Prop) (t : T α) : T α := match l with | [] => t | p :: l => .need p (needs l t)
theorem needs_ok {α : Type} {Q : α → Prop} {t : T α} : ∀ {l : List Prop}, (needs l t).ok Q → (∀ p ∈ l, p) ∧ t.ok Q
  | [], h => ⟨by simp, h⟩
  | q :: l, h => ⟨fun p hp => by
      rcases List.mem_cons.1 hp with rfl | hp
      · exact h.1
      · exact (needs_ok (l := l) h.2).1 p hp, (needs_ok (l := l) h.2).2⟩
def isGo (P : Program) (f : FuncId) : Bool := match P.funcs[f]? with | some fn => !(fn.name == "runtime.NumGoroutine") && !fn.body.isNone | none => false
def TabOk (P : Program) (S : Tab) : Prop := ∀ f xs t, S f xs = some t → isGo P f = true ∧ ∀ v, (t.ok fun x => x = v) → ∀ w, Calls P f xs.toArray w fun e w' => e = .returned v ∧ Below w.heap.size w w'

/-- kinds of cells -/
inductive Ki where
  | int (k : IntKind)
  | bool
  | str
def intV : Value → Int | .int _ z => z | _ => 0
def boolV : Value → Bool | .bool b => b | _ => false
def strV : Value → ByteArray | .string s => s | _ => ByteArray.empty
def Ki.mk : Ki → Value → Value
  | .int k, v => .int k (intV v)
  | .bool, v => .bool (boolV v)
  | .str, v => .string (strV v)
def shapeFs (g : TypeId → Option (List Ki)) : List Field → Option (List Ki)
  | [] => some []
  | f :: l => match g f.type, shapeFs g l with
    | some a, some b => some (a ++ b)
    | _, _ => none
def cellAt (xs : List Value) (i : Nat) : Value := xs.getD i undef
def cellOf (cs : Array Value) (i : Nat) : Value := cs.getD i undef
def cellIs (cs : Array Value) (i : Nat) (K : Ki) : Prop := cs[i]? = some (K.mk (cellOf cs i))
def shMk (xs : List Value) : Nat → List Ki → List Value
  | _, [] => []
  | i, K :: l => K.mk (cellAt xs i) :: shMk xs (i + 1) l
theorem shMk_length (xs : List Value) : ∀ (l : List Ki) (i : Nat), (shMk xs i l).length = l.length
  | [], _ => rfl
  | _ :: l, i => by simp [shMk, shMk_length xs l (i + 1)]
/-- a value without letters -/
def SV.plain : SV → Option Value
  | .v x => some x
  | .c x => some x
  | .tt => some (.bool true)
  | .ff => some (.bool false)
  | _ => none
theorem SV.plain_to {s : SV} {x : Value} (h : s.plain = some x) (B : List Value) : s.to B = some x := by
  cases s <;> first | exact h | cases h
/-- known whole: a constant, or reckoned of such -/
def SV.conc : SV → Bool
  | .c _ | .tt | .ff => true
  | _ => false
def View.pv (V : View) (x : Operand) : Option Value := match V.val x with | some s => s.plain | none => none
def isPlain (V : View) (x : Operand) : Bool := match V.pv x with | some _ => true | none => false
def isConc (V : View) (x : Operand) : Bool := match V.val x with | some s => s.conc | none => false
def View.rho (V : View) (x : Operand) : Value := match V.pv x with | some y => y | none => undef
def plains : List SV → Option (List Value)
  | [] => some []
  | s :: l => match s.plain, plains l with | some x, some xs => some (x :: xs) | _, _ => none
theorem plains_to {B : List Value} : ∀ {l : List SV} {xs : List Value}, plains l = some xs → SV.tos B l = some xs
  | [], _, h => by simp only [plains, Option.some.injEq] at h; subst h; rfl
  | s :: l, _, h => by
    simp only [plains] at h
    split at h
    · rename_i x xs hs hx
      simp only [Option.some.injEq] at h; subst h
      simp [SV.tos, SV.plain_to hs B, plains_to hx]
    · cases h
theorem Vw.pv {V : View} {H : List Blk} {B : List Value} {a : Act} (h : Vw V H B a) {x : Operand} {y : Value} (e : V.pv x = some y) : a.eval x = y := by
  unfold View.pv at e
  split at e
  · rename_i s hs
    have h1 := h.val hs
    rw [SV.plain_to e B] at h1
    simp only [Option.some.injEq] at h1
    exact h1.symm
  · cases e
def cellsOf (h : Nat → Option Blk) : SV → Option (List SV)
  | .v x => some (x.cells.toList.map .v)
  | .c x => some (x.cells.toList.map .c)
  | .tt => some [.tt]
  | .ff => some [.ff]
  | .agg l => some l
  | .ptr k off => some [.ptr k off]
  | .elt k sz i off => some [.elt k sz i off]
  | .ref k => match h k with | some (.row ..) => some [.ref k] | some (.vec ..) => some [.ref k] | _ => none
  | .tup _ => none
  | .clo fn a b => some [.clo fn a b]
  | .ifc t s => some [.ifc t s]
def oneS (h : Nat → Option Blk) : SV → Bool
  | .v x => x.oneCell'
  | .c x => x.oneCell'
  | .tt | .ff => true
  | .ptr .. | .elt .. | .clo .. | .ifc .. => true
  | .ref k => match h k with | some (.row ..) => true | some (.vec ..) => true | _ => false
  | .agg _ | .tup _ => false
def setL (cells : List SV) (off : Nat) : List SV → List SV
  | [] => cells
  | s :: l => setL (cells.set off s) (off + 1) l
/-- a struct or an array that is put together -/
def fillS (h : Nat → Option Blk) (place : Nat → Option (Nat × Nat)) (cells : List SV) : List (Nat × SV) → Option (List SV)
  | [] => some cells
  | (i, s) :: rest => match place i, cellsOf h s with
    | some (off, size), some l => bif Nat.beq l.length size && Nat.ble (off + l.length) cells.length then fillS h place (setL cells off l) rest else none
    | _, _ => none
def vals (V : View) : List Operand → Option (List SV)
  | [] => some []
  | x :: l => match V.val x, vals V l with | some s, some ss => some (s :: ss) | _, _ => none
theorem vals_to {V : View} {H : List Blk} {B : List Value} {a : Act} (h : Vw V H B a) : ∀ {l : List Operand} {ss : List SV}, vals V l = some ss → SV.tos B ss = some (l.map a.eval)
  | [], _, e => by simp only [vals, Option.some.injEq] at e; subst e; rfl
  | x :: l, _, e => by
    simp only [vals] at e
    split at e
    · rename_i s ss h1 h2
      simp only [Option.some.injEq] at e; subst e
      simp [SV.tos, h.val h1, vals_to h h2]
    · cases e
def mkAgg (l : List SV) : SV := match plains l with | some xs => .v (.agg xs.toArray) | none => .agg l
theorem cellsOf_to {H : List Blk} {B : List Value} {w : World} (hs : Sat H B w) {g : Nat → Option Blk} (hg : ∀ k x, g k = some x → H[k]? = some x) {s : SV} {x : Value} (h : s.to B = some x) {l : List SV} (hl : cellsOf g s = some l) : SV.tos B l = some x.cells.toList := by
  cases s with
  | v y => simp only [SV.to, Option.some.injEq] at h; subst h; simp only [cellsOf, Option.some.injEq] at hl; subst hl; exact tos_plain _ _
  | c y => simp only [SV.to, Option.some.injEq] at h; subst h; simp only [cellsOf, Option.some.injEq] at hl; subst hl; exact tos_conc _ _
  | tt => simp only [SV.to, Option.some.injEq] at h; subst h; simp only [cellsOf, Option.some.injEq] at hl; subst hl; rfl
  | ff => simp only [SV.to, Option.some.injEq] at h; subst h; simp only [cellsOf, Option.some.injEq] at hl; subst hl; rfl
  | ptr k off =>
    simp only [cellsOf, Option.some.injEq] at hl; subst hl
    have h' := h
    simp only [SV.to] at h
    split at h
    · simp only [Option.some.injEq] at h; subst h; simp [SV.tos, h', Value.cells]
    · cases h
  | elt k sz i off =>
    simp only [cellsOf, Option.some.injEq] at hl; subst hl
    have h' := h
    simp only [SV.to] at h
    split at h
    · simp only [Option.some.injEq] at h; subst h; simp [SV.tos, h', Value.cells]
    · cases h
  | ref k =>
    simp only [cellsOf] at hl
    split at hl
    · rename_i n sz f hk
      have hk := hg _ _ hk
      simp only [Option.some.injEq] at hl; subst hl
      have h' := h
      simp only [SV.to] at h
      obtain ⟨p, cap, rfl, -⟩ := hs.blk k _ _ hk h
      simp [SV.tos, h', Value.cells]
    · rename_i o' e sz n xs hk
      have hk := hg _ _ hk
      simp only [Option.some.injEq] at hl; subst hl
      have h' := h
      simp only [SV.to] at h
      have hs' : VecSat w e sz x n xs := hs.blk k _ _ hk h
      rcases hs'.view.2 with ⟨rfl, -⟩ | ⟨b, cap, rfl, -⟩ <;> simp [SV.tos, h', Value.cells]
    · cases hl
  | agg l' =>
    simp only [cellsOf, Option.some.injEq] at hl; subst hl
    simp only [SV.to, Option.map_eq_some_iff] at h
    obtain ⟨vs, h1, h2⟩ := h
    subst h2
    simpa [Value.cells] using h1
  | tup l' => simp [cellsOf] at hl
  | clo fn a b =>
    simp only [cellsOf, Option.some.injEq] at hl; subst hl
    have h' := h
    simp only [SV.to] at h
    split at h
    · simp only [Option.some.injEq] at h; subst h; simp [SV.tos, h', Value.cells]
    · cases h
  | ifc t s =>
    simp only [cellsOf, Option.some.injEq] at hl; subst hl
    have h' := h
    simp only [SV.to, Option.map_eq_some_iff] at h
    obtain ⟨v, h1, h2⟩ := h
    subst h2; simp [SV.tos, h', Value.cells]
def setV (cells : List Value) (off : Nat) : List Value → List Value
  | [] => cells
  | s :: l => setV (cells.set off s) (off + 1) l
theorem setV_length : ∀ (l : List Value) (cells : List Value) (off : Nat), (setV cells off l).length = cells.length
  | [], _, _ => rfl
  | s :: l, cells, off => by simp only [setV]; rw [setV_length l]; simp
theorem tos_set {B : List Value} {s : SV} {x : Value} (hs : s.to B = some x) : ∀ (l : List SV) (xs : List Value) (i : Nat), SV.tos B l = some xs → SV.tos B (l.set i s) = some (xs.set i x)
  | [], xs, i, e => by simp only [SV.tos, Option.some.injEq] at e; subst e; rfl
  | t :: l, xs, i, e => by
    simp only [SV.tos] at e
    split at e
    · rename_i y ys h1 h2
      simp only [Option.some.injEq] at e; subst e
      cases i with
      | zero => simp [SV.tos, hs, h2]
      | succ i => simp [SV.tos, h1, tos_set hs l ys i h2]
    · cases e
theorem tos_setL {B : List Value} : ∀ (l : List SV) (ys : List Value) (cells : List SV) (xs : List Value) (off : Nat), SV.tos B l = some ys → SV.tos B cells = some xs → SV.tos B (setL cells off l) = some (setV xs off ys)
  | [], ys, cells, xs, off, h, h2 => by simp only [SV.tos, Option.some.injEq] at h; subst h; exact h2
  | s :: l, ys, cells, xs, off, h, h2 => by
    simp only [SV.tos] at h
    split at h
    · rename_i y ys' h1 h3
      simp only [Option.some.injEq] at h; subst h
      simp only [setL, setV]
      exact tos_setL l ys' _ _ _ h3 (tos_set h1 cells xs off h2)
    · cases h
theorem foldl_set (ys : List Value) : ∀ (n off : Nat) (xs : List Value), (ys.zipIdx n).foldl (fun (cs : Array Value) p => cs.setIfInBounds (off + p.2) p.1) xs.toArray = (setV xs (off + n) ys).toArray := by
  induction ys with
  | nil => intro n off xs; rfl
  | cons y ys ih =>
    intro n off xs
    simp only [List.zipIdx_cons, List.foldl_cons, setV]
    rw [List.setIfInBounds_toArray, ih (n + 1) off]
    rfl
theorem fillS_ok {H : List Blk} {B : List Value} {w : World} (hs : Sat H B w) {g : Nat → Option Blk} (hg : ∀ k x, g k = some x → H[k]? = some x) {place : Nat → Option (Nat × Nat)} : ∀ (parts : List (Nat × SV)) (vs : List (Nat × Value)) (cells r : List SV) (xs : List Value), SV.tos B (parts.map (·.2)) = some (vs.map (·.2)) → parts.map (·.1) = vs.map (·.1) →
    SV.tos B cells = some xs → fillS g place cells parts = some r → ∃ ys, SV.tos B r = some ys ∧ Instr.fill place xs.toArray vs = some ys.toArray
  | [], vs, cells, r, xs, h1, h2, h3, h4 => by
    simp only [fillS, Option.some.injEq] at h4
    subst h4
    cases vs with
    | nil => exact ⟨xs, h3, rfl⟩
    | cons v vs => simp at h2
  | (i, s) :: parts, vs, cells, r, xs, h1, h2, h3, h4 => by
    cases vs with
    | nil => simp at h2
    | cons v vs =>
      obtain ⟨j, x⟩ := v
      simp only [List.map_cons, List.cons.injEq] at h2
      obtain ⟨rfl, h2⟩ := h2
      simp only [List.map_cons, SV.tos] at h1
      split at h1
      · rename_i x' xs' g1 g2
        simp only [Option.some.injEq, List.cons.injEq] at h1
        obtain ⟨rfl, rfl⟩ := h1
        simp only [fillS] at h4
        split at h4
        · rename_i off size l hp hl
          have hc := cellsOf_to hs hg g1 hl
          have hlen := tos_length hc
          have hlen2 := tos_length h3
          cases hb : (Nat.beq l.length size && Nat.ble (off + l.length) cells.length)
          · rw [hb] at h4; cases h4
          · rw [hb, cond_true] at h4
            simp only [Bool.and_eq_true] at hb
            obtain rfl : l.length = size := Nat.eq_of_beq_eq_true hb.1
            have hle := Nat.le_of_ble_eq_true hb.2
            obtain ⟨ys, k1, k2⟩ := fillS_ok hs hg parts vs _ r _ g2 h2 (tos_setL l _ cells xs off hc h3) h4
            refine ⟨ys, k1, ?_⟩
            simp only [Array.length_toList] at hlen
            simp only [Instr.fill, hp, hlen]
            rw [if_neg (by simp only [List.size_toArray, ne_eq, not_true_eq_false, decide_false, Bool.false_or, decide_eq_true_eq]; omega)]
            rw [← k2]
            congr 1
            have := foldl_set x'.cells.toList 0 off xs
            rw [Nat.add_zero] at this
            rw [← this, ← Array.foldl_toList, Array.toList_zipIdx]
        · cases h4
      · cases h1
theorem mkAgg_to {B : List Value} {l : List SV} {xs : List Value} (h : SV.tos B l = some xs) : (mkAgg l).to B = some (.agg xs.toArray) := by
  unfold mkAgg
  split
  · rename_i ys hy
    rw [plains_to hy] at h
    simp only [Option.some.injEq] at h; subst h; rfl
  · simp [SV.to, h]

section
variable (P : Program) (S : Tab)

def evalPure (V : View) (o : Oper) : T SV :=
  match o.op with
  | .select .. => .stuck 1
  | _ => bif o.op.operands.toList.all (isPlain V) then (match pureVal P (execOp V.rho o) with | some (.value v) => (bif o.op.operands.toList.all (isConc V) then (match v with | .bool true => .leaf .tt | .bool false => .leaf .ff | v => .leaf (.c v)) else .leaf (.v v)) | _ => .stuck 2) else .stuck 3
def shapeT : Nat → TypeId → Option (List Ki)
  | 0, _ => none
  | d + 1, t => match P.underlying t with
    | some (.int k) => some [.int k]
    | some .bool => some [.bool]
    | some .string => some [.str]
    | some (.struct fs) => shapeFs (shapeT d) fs.toList
    | _ => none
def leafO (n : Nat) : Option SV → T SV
  | some s => .leaf s
  | none => .stuck n
def evalLoad (V : View) (t : TypeId) (x : Operand) : T SV :=
  match pureVal P (isAgg t), pureVal P (sizeOf t) with
  | some ag, some n => match V.val x with
    | some (.ptr k off) => (match V.see k with
      | some (.own cells) => bif Nat.ble (off + n) cells.length then (bif ag then .leaf (mkAgg ((cells.drop off).take n)) else leafO 5 cells[off]?) else .stuck 6
      | some (.arr kind m h) => bif ag then (bif Nat.beq off 0 && Nat.beq n m then .leaf (.v (.agg (arrCells kind m h))) else .stuck 60) else .need (off < m) (.leaf (.v (.int kind (h off))))
      | _ => .stuck 7)
    | some (.elt k sz i off) => (match V.see k with
      | some (.row m sz' f) => bif Nat.beq sz sz' && Nat.ble (off + n) sz && Nat.ble 1 n then (.need (i < m) (bif ag then .leaf (.v (.agg ((List.range' off n).map (f i)).toArray)) else .leaf (.v (f i off)))) else .stuck 8
      | some (.vec o _ sz' m xs) => bif Nat.beq sz sz' && Nat.ble (off + n) sz && Nat.ble 1 n then (.need (i < m) (match (bif o then shapeT P 9 t else none) with
        | some sh => bif Nat.beq sh.length n then .need ((xs.drop (i * sz + off)).take n = shMk xs (i * sz + off) sh) (bif ag then .leaf (.v (.agg (shMk xs (i * sz + off) sh).toArray)) else leafO 63 ((shMk xs (i * sz + off) sh)[0]?.map .v)) else .stuck 64
        | none => (bif ag then .leaf (.v (.agg ((xs.drop (i * sz + off)).take n).toArray)) else (match xs[i * sz + off]? with | some x => .leaf (.v x) | none => .stuck 61)))) else .stuck 62
      | _ => .stuck 9)
    | _ => .stuck 10
  | _, _ => .stuck 11
def fieldOf (t : TypeId) (i : Nat) : Option (Nat × Nat) :=
  match pureVal P (underlying t) with
  | some (.struct fields) => (match fields[i]? with
    | some f => (match pureVal P (sizeOf f.type) with | some n => some (f.offset, n) | none => none)
    | none => none)
  | _ => none
def evalField (V : View) (o : Oper) (t : TypeId) (x : Operand) (i : Nat) : T SV :=
  match V.val x with
  | some (.ptr k off) => (match fieldOf P t i with
    | some (fo, n) => bif Nat.beq n 0 then .stuck 12 else .leaf (.ptr k (off + fo))
    | none => .stuck 13)
  | some (.elt k sz j off) => (match fieldOf P t i with
    | some (fo, n) => bif Nat.beq n 0 then .stuck 14 else .leaf (.elt k sz j (off + fo))
    | none => .stuck 15)
  | _ => evalPure P V o
def evalIndexAddr (V : View) (o : Oper) (t : TypeId) (x ix : Operand) : T SV :=
  match V.val x, V.pv ix with
  | some (.ref k), some (.int _ z) => (match pureVal P (underlying t), V.see k with
    | some (.slice e), some (.row m sz _) => (match pureVal P (sizeOf e) with
      | some n => bif Nat.beq n sz && Nat.ble 1 sz then .need (0 ≤ z ∧ z < m) (.leaf (.elt k sz z.toNat 0)) else .stuck 16
      | none => .stuck 17)
    | some (.slice e), some (.vec _ _ sz m _) => (match pureVal P (sizeOf e) with
      | some n => bif Nat.beq n sz && Nat.ble 1 sz then .need (0 ≤ z ∧ z < m) (.leaf (.elt k sz z.toNat 0)) else .stuck 63
      | none => .stuck 64)
    | _, _ => .stuck 18)
  | some (.ptr k off), some (.int _ z) => (match pureVal P (underlying t) with
    | some (.array m e) => (match pureVal P (sizeOf e) with
      | some n => .need (0 ≤ z ∧ z < m) (.leaf (.ptr k (off + z.toNat * n)))
      | none => .stuck 19)
    | _ => .stuck 20)
  | _, _ => evalPure P V o
def byteAt (s : ByteArray) (i : Int) : Int := (s.data.toList.getD i.toNat 0).toNat
def evalIndex (V : View) (o : Oper) (t : TypeId) (x ix : Operand) : T SV :=
  match V.pv x, V.pv ix with
  | some (.string s), some (.int _ z) => (match pureVal P (underlying t) with
    | some .string => .need (0 ≤ z ∧ z < s.size) (.leaf (.v (.int .u8 (byteAt s z))))
    | _ => .stuck 21)
  | some (.agg cs), some (.int _ z) => bif isConc V ix then evalPure P V o else (match pureVal P (underlying t) with
    | some (.array m e) => (match shapeT P 9 e, pureVal P (sizeOf e), pureVal P (isAgg e) with
      | some [K], some 1, some false => .need (0 ≤ z ∧ z < m) (.need (cellIs cs z.toNat K) (.leaf (.v (K.mk (cellOf cs z.toNat)))))
      | _, _, _ => .stuck 150)
    | _ => .stuck 151)
  | _, _ => evalPure P V o
def intO (V : View) (d : Int) : Option Operand → Option Int
  | none => some d
  | some x => match V.pv x with | some (.int _ z) => some z | _ => none
def evalSlice (V : View) (o : Oper) (t : TypeId) (x : Operand) (lo hi : Option Operand) : T SV :=
  match V.pv x with
  | some (.string s) => (match pureVal P (underlying t), intO V 0 lo, intO V s.size hi with
    | some .string, some l, some h => .need (0 ≤ l ∧ l ≤ h ∧ h ≤ s.size) (.leaf (.v (.string (s.extract l.toNat h.toNat))))
    | _, _, _ => .stuck 22)
  | _ => evalPure P V o
mutual
/-- whether two values without letters are the same -/
def eqV : Nat → TypeId → Value → Value → Option Bool
  | 0, _, _, _ => none
  | d + 1, t, x, y => match P.underlying t, x, y with
    | some .bool, .bool a, .bool b => some (a == b)
    | some (.int _), .int k a, .int k' b => bif decide (k = k') then some (a == b) else none
    | some .string, .string a, .string b => some (decide (a = b))
    | some (.struct fs), .agg xs, .agg ys => bif P.stoodInHeld t then none else eqFs d xs ys fs.toList
    | _, _, _ => none
def eqFs : Nat → Array Value → Array Value → List Field → Option Bool
  | _, _, _, [] => some true
  | 0, _, _, _ :: _ => none
  | d + 1, xs, ys, f :: fs => bif f.name == "_" then none else
    match pureVal P (part f.type xs f.offset), pureVal P (part f.type ys f.offset) with
    | some a, some b => (match eqV d f.type a b, eqFs d xs ys fs with
      | some e, some r => some (e && r)
      | _, _ => none)
    | _, _ => none
end
def evalEq (V : View) (o : Oper) (neg : Bool) (t : TypeId) (x y : Operand) : T SV :=
  match V.val x, V.pv y with
  | some (.ptr _ _), some (.pointer none) => (match P.underlying t with
    | some (.pointer _) => .leaf (bif neg then .tt else .ff)
    | _ => .stuck 100)
  | some (.elt _ _ _ _), some (.pointer none) => (match P.underlying t with
    | some (.pointer _) => .leaf (bif neg then .tt else .ff)
    | _ => .stuck 101)
  | some s, some (.agg ys) => (match s.plain with
    | some (.agg xs) => bif P.eqGuardType P.depth t then .stuck 102 else (match eqV P 60 t (.agg xs) (.agg ys) with
      | some b => .leaf (.v (.bool (bif neg then !b else b)))
      | none => .stuck 103)
    | _ => .stuck 104)
  | _, _ => evalPure P V o
def evalBin (V : View) (o : Oper) (op : BinOp) (t : TypeId) (x y : Operand) : T SV :=
  match op, V.pv x, V.pv y with
  | .add, some (.string a), some (.string b) => .need (a.size + b.size ≤ 9223372036854775807) (.leaf (.v (.string (a ++ b))))
  | .eql, some (.string a), some (.string b) => .leaf (.v (.bool (decide (a = b))))
  | .neq, some (.string a), some (.string b) => .leaf (.v (.bool (!decide (a = b))))
  | .eql, _, _ => evalEq P V o false t x y
  | .neq, _, _ => evalEq P V o true t x y
  | _, _, _ => evalPure P V o
def builtS (h : Nat → Option Blk) (t : TypeId) (parts : List (Nat × SV)) : Option (List SV) :=
  match P.info? t, P.underlying t with
  | some it, some (.array _ e) => (match it.zero, P.info? e with
    | some z, some ie => fillS h (fun i => some (i * ie.size, ie.size)) (z.cells.toList.map .c) parts
    | _, _ => none)
  | some it, some (.struct fields) => (match it.zero, fields.toList.mapM (fun f => (P.info? f.type).map fun i => (f.offset, i.size)) with
    | some z, some places => fillS h (places.toArray[·]?) (z.cells.toList.map .c) parts
    | _, _ => none)
  | _, _ => none
def evalBuildS (V : View) (t : TypeId) (parts : Array (Nat × Operand)) : T SV :=
  match vals V (parts.toList.map (·.2)) with
  | some ss => (match builtS P V.see t ((parts.toList.map (·.1)).zip ss) with
    | some l => .leaf (mkAgg l)
    | none => .stuck 110)
  | none => .stuck 111
def isPtr : TypeDesc → Bool
  | .pointer _ => true
  | _ => false
/-- the method of an interface value -/
def methodOf (t : TypeId) (name : String) : Option FuncId :=
  match P.info? t with
  | some i => (match i.methods.find? (·.name == name), P.underlying t with
    | some m, some d => (match m.func with
      | some (f, ptr) => bif m.path.isEmpty && (bif isPtr d then ptr else !ptr) then some f else none
      | none => none)
    | _, _ => none)
  | none => none
/-- the function that is called, and with what -/
def target (V : View) (c : Call) : Option (FuncId × List SV) :=
  match vals V c.args.toList with
  | some ss => (match c.callee with
    | .value (.func f) => some (f, ss)
    | .value x => (match V.val x with
      | some (.clo (.func f) a b) => some (f, a ++ ss ++ b)
      | some (.v (.func (.func f) a b)) => some (f, a.toList.map .v ++ ss ++ b.toList.map .v)
      | some (.c (.func (.func f) a b)) => some (f, a.toList.map .c ++ ss ++ b.toList.map .c)
      | _ => none)
    | .invoke r name => (match V.val r with
      | some (.ifc t s) => (methodOf P t name).map fun f => (f, s :: ss)
      | some (.v (.iface t v)) => (methodOf P t name).map fun f => (f, .v v :: ss)
      | some (.c (.iface t v)) => (methodOf P t name).map fun f => (f, .c v :: ss)
      | _ => none)
    | .builtin _ => none)
  | none => none
def isBuiltin (c : Call) : Bool := match c.callee with | .builtin _ => true | _ => false
def evalCall (V : View) (o : Oper) (c : Call) : T SV :=
  bif !isBuiltin c then (match target P V c with
    | some (f, ss) => (match plains ss with
      | some xs => (match S f xs with
        | some t => t.bind fun v => .leaf (.v v)
        | none => .stuck (1000 + f))
      | none => .stuck (2000 + f))
    | none => .stuck 24) else
  match c.callee with
  | .builtin .len => (match vals V c.args.toList with
    | some [.ref k] => (match V.see k, c.argTypes[0]? with
      | some (.row n _ _), some t => (match pureVal P (underlying t) with
        | some (.slice _) => .leaf (.v (.int .i64 n))
        | _ => .stuck 25)
      | some (.vec _ _ _ n _), some t => (match pureVal P (underlying t) with
        | some (.slice _) => .leaf (.v (.int .i64 n))
        | _ => .stuck 65)
      | _, _ => .stuck 26)
    | _ => evalPure P V o)
  | _ => evalPure P V o
/-- operations that leave memory as it is -/
def evalQ (V : View) (o : Oper) : T SV :=
  match o.op with
  | .move x | .assign x => leafO 4 (V.val x)
  | .unOp .not _ x => match V.val x with
    | some .tt => .leaf .ff
    | some .ff => .leaf .tt
    | _ => evalPure P V o
  | .pick c x y => match V.val c with
    | some .tt => leafO 4 (V.val x)
    | some .ff => leafO 4 (V.val y)
    | some (.v (.bool b)) => .ite b (leafO 4 (V.val x)) (leafO 4 (V.val y))
    | _ => .stuck 27
  | .load t x => evalLoad P V t x
  | .fieldAddr t x i => evalField P V o t x i
  | .indexAddr t x ix => evalIndexAddr P V o t x ix
  | .nilCheck x => match V.val x with
    | some (.ptr k off) => .leaf (.ptr k off)
    | some (.elt k sz i off) => .leaf (.elt k sz i off)
    | some (.clo (.func f) a b) => .leaf (.clo (.func f) a b)
    | _ => evalPure P V o
  | .index t x ix => evalIndex P V o t x ix
  | .slice t x lo hi none => evalSlice P V o t x lo hi
  | .binOp op t x y _ => evalBin P V o op t x y
  | .extract x i => match V.val x with
    | some (.tup l) => leafO 28 l[i]?
    | _ => evalPure P V o
  | .call c => evalCall P S V o c
  | .build t parts => evalBuildS P V t parts
  | .makeFunc fn first captured => match vals V first.toList, vals V captured.toList with
    | some a, some b => (match plains a, plains b with
      | some xs, some ys => .leaf (.v (.func fn xs.toArray ys.toArray))
      | _, _ => .leaf (.clo fn a b))
    | _, _ => .stuck 140
  | .makeInterface t x => match V.val x with
    | some s => (match s.plain with
      | some _ => evalPure P V o
      | none => (match P.underlying t with
        | some (.interface _) => .stuck 141
        | some _ => .leaf (.ifc t s)
        | none => .stuck 142))
    | none => .stuck 143
  | .typeAssert x _ u ok => match V.val x with
    | some (.ifc t s) => (match P.underlying u with
      | some (.interface _) => .stuck 144
      | some _ => bif Nat.beq t u then (bif ok then .leaf (.tup [s, .tt]) else .leaf s) else (bif ok then (match pureVal P (zeroValue u) with | some z => .leaf (.tup [.c z, .ff]) | none => .stuck 145) else .stuck 146)
      | none => .stuck 147)
    | _ => evalPure P V o
  | _ => evalPure P V o
end

section
variable {P : Program} {S : Tab} {N : Nat} {w0 : World} {bs : List Nat}

theorem quietAt_value {o : Oper} {a : Act} {C : World → Prop} {w : World} {x : Value} (h : (execOp a.eval o).run P w = .ok (.value x) w) : o.quietAt P a C w x := by
  unfold Oper.quietAt; rw [h]; exact ⟨rfl, rfl⟩
/-- what is shown of an operation that leaves memory as it is -/
def QuietRes (P : Program) (w0 : World) (bs : List Nat) (H : List Blk) (B : List Value) (a : Act) (o : Oper) (s : SV) : Prop :=
  ∃ x, s.to B = some x ∧ ∀ w, Mem w0 bs H B w → o.quietAt P a (Mem w0 bs H B) w x
theorem QuietRes.of {H : List Blk} {B : List Value} {a : Act} {o : Oper} {s : SV} {x : Value} (h1 : s.to B = some x) (h2 : ∀ w, Mem w0 bs H B w → (execOp a.eval o).run P w = .ok (.value x) w) : QuietRes P w0 bs H B a o s :=
  ⟨x, h1, fun w hw => quietAt_value (h2 w hw)⟩
theorem rho_eq {V : View} {H : List Blk} {B : List Value} {a : Act} (h : Vw V H B a) {x : Operand} (hx : isPlain V x = true) : a.eval x = V.rho x := by
  unfold isPlain at hx
  unfold View.rho
  split at hx
  · rename_i y hy
    exact h.pv hy
  · cases hx
theorem evalPure_ok {V : View} {H : List Blk} {B : List Value} {a : Act} (h : Vw V H B a) {o : Oper} {Qs : SV → Prop} (hq : (evalPure P V o).ok Qs) : ∃ s, Qs s ∧ QuietRes P w0 bs H B a o s := by
  unfold evalPure at hq
  have key : (∀ cs b, o.op ≠ .select cs b) → (bif o.op.operands.toList.all (isPlain V) then (match pureVal P (execOp V.rho o) with | some (.value v) => (bif o.op.operands.toList.all (isConc V) then (match v with | .bool true => .leaf .tt | .bool false => .leaf .ff | v => .leaf (.c v)) else .leaf (.v v)) | _ => .stuck 2) else .stuck 3 : T SV).ok Qs → ∃ s, Qs s ∧ QuietRes P w0 bs H B a o s := by
    intro hs hq
    cases hp : o.op.operands.toList.all (isPlain V)
    · rw [hp] at hq; exact hq.elim
    · rw [hp, cond_true] at hq
      have he : execOp a.eval o = execOp V.rho o := execOp_congr o hs fun x hx => rho_eq h (by rw [List.all_eq_true] at hp; exact hp x (by simpa using hx))
      split at hq
      · rename_i v hv
        have hr : ∀ w, (execOp a.eval o).run P w = .ok (.value v) w := fun w => by rw [he]; exact pureVal_run hv w
        cases hcc : o.op.operands.toList.all (isConc V)
        · rw [hcc, cond_false] at hq
          exact ⟨_, hq, .of (x := v) rfl fun w _ => hr w⟩
        · rw [hcc, cond_true] at hq
          split at hq <;> exact ⟨_, hq, .of rfl fun w _ => hr w⟩
      · exact hq.elim
  split at hq
  · exact hq.elim
  · rename_i hns
    exact key (fun cs b e => hns cs b e) hq
theorem leafO_ok {n : Nat} {x : Option SV} {Qs : SV → Prop} (h : (leafO n x).ok Qs) : ∃ s, x = some s ∧ Qs s := by
  cases x with
  | none => exact h.elim
  | some s => exact ⟨s, rfl, h⟩
theorem run_isAgg_bind {α : Type} {t : TypeId} {b : Bool} (h : pureVal P (isAgg t) = some b) (f : Bool → Sem α) (w : World) : (isAgg t >>= f).run P w = (f b).run P w := run_bind_pure h f w
theorem run_v {s : Sem Value} {x : Value} {w w' : World} (h : s.run P w = .ok x w') : (do pure (Next.value (← s)) : Sem Next).run P w = .ok (.value x) w' := by
  have := Sem.run_bind' P s (fun x => Sem.pure (Next.value x)) w
  rw [h] at this
  exact this
theorem run_bind_ok {α β : Type} {s : Sem α} {x : α} {w w' : World} (h : s.run P w = .ok x w') (f : α → Sem β) : (s >>= f).run P w = (f x).run P w' := by
  have := Sem.run_bind' P s f w
  rw [h] at this
  exact this
theorem addr_add_add (a : Addr) (m n : Nat) : (a.add m).add n = a.add (m + n) := by
  unfold Addr.add
  by_cases h1 : m = 0
  · subst h1; simp
  · by_cases h2 : n = 0
    · subst h2; simp [h1]
    · have h3 : m + n ≠ 0 := by omega
      simp [h1, h2, Nat.add_assoc]
theorem loadVar_one {t : TypeId} {w : World} {p : Addr} {u : Value} (hag : pureVal P (isAgg t) = some false) (hc : w.cell? p = some u) : (loadVar t p).run P w = .ok u w := by
  unfold loadVar
  rw [run_bind_pure hag]
  simp only [Bool.false_eq_true, if_false]
  show (Sem.load .plain p .pure).run P w = _
  simp only [Sem.run, hc]
theorem loadVar_agg {t : TypeId} {n : Nat} {w : World} {p : Addr} {us : List Value} (hag : pureVal P (isAgg t) = some true) (hn : pureVal P (sizeOf t) = some n) (hl : us.length = n) (hc : ∀ j v, us[j]? = some v → w.cell? (p.add j) = some v) :
    (loadVar t p).run P w = .ok (.agg us.toArray) w := by
  unfold loadVar
  rw [run_bind_pure hag]
  simp only [if_true]
  have := run_loadCells_list (P := P) (w := w) p us hc
  rw [hl] at this
  rw [run_bind_pure hn, run_bind_ok this]
  rfl
theorem load_exec {a : Act} {o : Oper} {t : TypeId} {x : Operand} (ho : o.op = .load t x) {w : World} {p : Addr} {u : Value} (e : a.eval x = .pointer (some p)) (hr : (loadVar t p).run P w = .ok u w) : (execOp a.eval o).run P w = .ok (.value u) w := by
  have hex : execOp a.eval o = (do pure (Next.value (← Instr.loadAt t (a.eval x))) : Sem Next) := by unfold execOp; rw [ho]
  rw [hex]
  refine run_v ?_
  unfold Instr.loadAt
  rw [e]
  exact hr
theorem add_off (b off j : Nat) : (⟨b, off, none⟩ : Addr).add j = ⟨b, off + j, none⟩ := by unfold Addr.add; split <;> simp_all
/-- the elements of a slice that is read, be it one's own or another's -/
theorem elt_cells {H : List Blk} {B : List Value} {k : Nat} {x : Blk} {m sz : Nat} (hk : H[k]? = some x) {g : Nat → Option Value} {i : Nat} (hi : i < m)
    (hx : (∃ f, x = .row m sz f ∧ ∀ j, j < sz → g j = some (f i j)) ∨ (∃ o e xs, x = .vec o e sz m xs ∧ ∀ j, j < sz → g j = xs[i * sz + j]?)) {w1 : World} (h1 : Mem w0 bs H B w1) (hsz : 0 < sz) :
    ∃ p cap, B[k]? = some (.slice (some p) m cap) ∧ ∀ w, Mem w0 bs H B w → ∀ j v, j < sz → g j = some v → w.cell? (p.add (i * sz + j)) = some v := by
  rcases hx with ⟨f, rfl, hg⟩ | ⟨o', e, xs, rfl, hg⟩
  · obtain ⟨p, cap, g1, -, -, g2⟩ := h1.row_at hk
    obtain ⟨a0, rfl, -⟩ := g2 i 0 hi hsz
    refine ⟨a0, cap, g1, fun w hw j v hj hv => ?_⟩
    obtain ⟨p', cap', g1', -, -, g2'⟩ := hw.row_at hk
    rw [g1] at g1'
    simp only [Option.some.injEq, Value.slice.injEq] at g1'
    obtain ⟨a1, e1, e2⟩ := g2' i j hi hj
    rw [← g1'.1] at e1
    simp only [Option.some.injEq] at e1
    subst e1
    rw [hg j hj] at hv
    simp only [Option.some.injEq] at hv
    rw [e2, hv]
  · obtain ⟨u, hu⟩ := h1.sat.getB hk
    have hs : VecSat w1 e sz u m xs := h1.sat.blk k _ u hk hu
    rcases hs.view.2 with ⟨-, hm⟩ | ⟨b, cap, rfl, -⟩
    · omega
    · refine ⟨⟨b, 0, none⟩, cap, hu, fun w hw j v hj hv => ?_⟩
      have hs' : VecSat w e sz (.slice (some ⟨b, 0, none⟩) m cap) m xs := hw.sat.blk k _ _ hk hu
      rw [add_off, Nat.zero_add]
      rw [hg j hj] at hv
      rcases hs'.view.2 with ⟨e0, -⟩ | ⟨b', cap', e0, -, -, -, hcs⟩
      · cases e0
      simp only [Value.slice.injEq, Option.some.injEq, Addr.mk.injEq] at e0
      obtain ⟨⟨rfl, -⟩, -⟩ := e0
      rw [(hcs (i * sz + j) ?_).1, hv]
      calc i * sz + j < i * sz + sz := by omega
        _ = (i + 1) * sz := by rw [Nat.add_mul, Nat.one_mul]
        _ ≤ m * sz := Nat.mul_le_mul_right _ hi
theorem evalLoad_ok {V : View} {H : List Blk} {B : List Value} {a : Act} (h : Vw V H B a) {w1 : World} (hm : Mem w0 bs H B w1) {o : Oper} {t : TypeId} {x : Operand} (ho : o.op = .load t x) {Qs : SV → Prop} (hq : (evalLoad P V t x).ok Qs) : ∃ s, Qs s ∧ QuietRes P w0 bs H B a o s := by
  unfold evalLoad at hq
  split at hq
  case h_2 => exact hq.elim
  rename_i ag n hag hn
  split at hq
  · rename_i k off hx
    have hv := h.val hx
    split at hq
    · rename_i cells hk
      have hk := h.see hk
      obtain ⟨b, vs, g1, g2, g3⟩ := hm.own_at hk
      simp only [SV.to, g1, Option.some.injEq] at hv
      have hall : ∀ w, Mem w0 bs H B w → ∀ j, w.cell? ⟨b, j, none⟩ = vs.toArray[j]? := by
        intro w hw
        obtain ⟨b', vs', g1', g2', g3'⟩ := hw.own_at hk
        rw [g1] at g1'
        rw [g2] at g2'
        simp only [Option.some.injEq, Value.pointer.injEq, Addr.mk.injEq] at g1' g2'
        obtain ⟨rfl, -⟩ := g1'
        subst g2'
        exact g3'.2.1
      cases hb : Nat.ble (off + n) cells.length
      · rw [hb] at hq; exact hq.elim
      · rw [hb, cond_true] at hq
        have hle : off + n ≤ cells.length := Nat.le_of_ble_eq_true hb
        have hlen := tos_length g2
        cases hag' : ag
        · rw [hag', cond_false] at hq
          obtain ⟨s, hs, hqs⟩ := leafO_ok hq
          obtain ⟨u, hu1, hu2⟩ := tos_get g2 hs
          refine ⟨s, hqs, .of hu2 fun w hw => load_exec ho hv.symm (loadVar_one (hag' ▸ hag) ?_)⟩
          rw [hall w hw off]; simpa using hu1
        · rw [hag', cond_true] at hq
          refine ⟨_, hq, .of (x := .agg ((vs.drop off).take n).toArray) (mkAgg_to (tos_take (tos_drop g2 off) n)) fun w hw => load_exec ho hv.symm (loadVar_agg (hag' ▸ hag) hn (by simp; omega) fun j v hj => ?_)⟩
          rw [add_off, hall w hw]
          rw [List.getElem?_take] at hj
          split at hj
          · simpa using hj
          · cases hj
    · rename_i kind m g hk
      have hk := h.see hk
      obtain ⟨u, hu⟩ := hm.sat.getB hk
      obtain ⟨b, rfl, -⟩ := hm.sat.blk k _ u hk hu
      simp only [SV.to, hu, Option.some.injEq] at hv
      have hall : ∀ w, Mem w0 bs H B w → ∀ j, w.cell? ⟨b, j, none⟩ = (arrCells kind m g)[j]? := by
        intro w hw
        obtain ⟨b', e, g3⟩ := hw.sat.blk k _ _ hk hu
        simp only [Value.pointer.injEq, Option.some.injEq, Addr.mk.injEq] at e
        obtain ⟨rfl, -⟩ := e
        exact g3.2.1
      cases hag' : ag
      · rw [hag', cond_false] at hq
        obtain ⟨hlt, hq⟩ := hq
        refine ⟨_, hq, .of rfl fun w hw => load_exec ho hv.symm (loadVar_one (hag' ▸ hag) ?_)⟩
        rw [hall w hw off]
        simp [arrCells, hlt]
      · rw [hag', cond_true] at hq
        cases hb : Nat.beq off 0 && Nat.beq n m
        · rw [hb] at hq; exact hq.elim
        · rw [hb, cond_true] at hq
          simp only [Bool.and_eq_true] at hb
          obtain rfl : off = 0 := Nat.eq_of_beq_eq_true hb.1
          obtain rfl : n = m := Nat.eq_of_beq_eq_true hb.2
          have e : arrCells kind n g = ((arrCells kind n g).toList).toArray := by simp
          refine ⟨_, hq, .of (x := .agg (arrCells kind n g)) rfl fun w hw => ?_⟩
          rw [e]
          refine load_exec ho hv.symm (loadVar_agg (hag' ▸ hag) hn (by simp [arrCells]) fun j v hj => ?_)
          rw [add_off, Nat.zero_add, hall w hw]
          simpa using hj
    · exact hq.elim
  · rename_i k sz i off hx
    have hv := h.val hx
    have fin : ∀ (xb : Blk) (m : Nat) (g : Nat → Option Value), H[k]? = some xb → i < m → ((∃ f, xb = .row m sz f ∧ ∀ j, j < sz → g j = some (f i j)) ∨ (∃ o e xs, xb = .vec o e sz m xs ∧ ∀ j, j < sz → g j = xs[i * sz + j]?)) →
        off + n ≤ sz → 1 ≤ n → (ag = false → ∀ v, g off = some v → QuietRes P w0 bs H B a o (.v v)) ∧ (ag = true → ∀ us : List Value, us.length = n → (∀ j v, us[j]? = some v → g (off + j) = some v) → QuietRes P w0 bs H B a o (.v (.agg us.toArray))) := by
      intro xb m g hk hi hxb hle h1n
      obtain ⟨p, cap, g1, g2⟩ := elt_cells hk hi hxb hm (by omega)
      simp only [SV.to, g1, Option.some.injEq] at hv
      refine ⟨fun hag' v hgv => .of rfl fun w hw => load_exec ho hv.symm (loadVar_one (hag' ▸ hag) (g2 w hw off v (by omega) hgv)), fun hag' us hl hus => .of rfl fun w hw => load_exec ho hv.symm (loadVar_agg (hag' ▸ hag) hn hl fun j v hj => ?_)⟩
      rw [addr_add_add, Nat.add_assoc]
      have hjl := (List.getElem?_eq_some_iff.1 hj).1
      exact g2 w hw (off + j) v (by omega) (hus j v hj)
    split at hq
    · rename_i m sz' f hk
      have hk := h.see hk
      cases hb : (Nat.beq sz sz' && Nat.ble (off + n) sz && Nat.ble 1 n)
      · rw [hb] at hq; exact hq.elim
      · rw [hb, cond_true] at hq
        simp only [Bool.and_eq_true] at hb
        obtain ⟨⟨hb1, hb2⟩, hb3⟩ := hb
        obtain rfl : sz = sz' := Nat.eq_of_beq_eq_true hb1
        have hle := Nat.le_of_ble_eq_true hb2
        have h1n := Nat.le_of_ble_eq_true hb3
        obtain ⟨him, hq⟩ := hq
        obtain ⟨f1, f2⟩ := fin _ m (fun j => some (f i j)) hk him (.inl ⟨f, rfl, fun _ _ => rfl⟩) hle h1n
        cases hag' : ag
        · rw [hag', cond_false] at hq
          exact ⟨_, hq, f1 hag' _ rfl⟩
        · rw [hag', cond_true] at hq
          refine ⟨_, hq, f2 hag' _ (by simp) fun j v hj => ?_⟩
          rw [List.getElem?_map] at hj
          rcases Nat.lt_or_ge j n with hjn | hjn
          · rw [List.getElem?_range' hjn] at hj
            simp only [Nat.one_mul, Option.map_some, Option.some.injEq] at hj
            rw [hj]
          · rw [List.getElem?_eq_none (by simpa using hjn)] at hj; cases hj
    · rename_i o' e sz' m xs hk
      have hk := h.see hk
      cases hb : (Nat.beq sz sz' && Nat.ble (off + n) sz && Nat.ble 1 n)
      · rw [hb] at hq; exact hq.elim
      · rw [hb, cond_true] at hq
        simp only [Bool.and_eq_true] at hb
        obtain ⟨⟨hb1, hb2⟩, hb3⟩ := hb
        obtain rfl : sz = sz' := Nat.eq_of_beq_eq_true hb1
        have hle := Nat.le_of_ble_eq_true hb2
        have h1n := Nat.le_of_ble_eq_true hb3
        obtain ⟨him, hq⟩ := hq
        obtain ⟨f1, f2⟩ := fin _ m (fun j => xs[i * sz + j]?) hk him (.inr ⟨o', e, xs, rfl, fun _ _ => rfl⟩) hle h1n
        split at hq
        · rename_i sh hsh
          cases hb4 : Nat.beq sh.length n
          · rw [hb4] at hq; exact hq.elim
          · rw [hb4, cond_true] at hq
            obtain rfl : sh.length = n := Nat.eq_of_beq_eq_true hb4
            obtain ⟨heq, hq⟩ := hq
            have hcell : ∀ j v, (shMk xs (i * sz + off) sh)[j]? = some v → xs[i * sz + (off + j)]? = some v := by
              intro j v hj
              rw [← heq, List.getElem?_take] at hj
              split at hj
              · rw [List.getElem?_drop] at hj
                rw [← hj]; congr 1; omega
              · cases hj
            cases hag' : ag
            · rw [hag', cond_false] at hq
              obtain ⟨s, hs, hqs⟩ := leafO_ok hq
              simp only [Option.map_eq_some_iff] at hs
              obtain ⟨v, hv1, rfl⟩ := hs
              exact ⟨_, hqs, f1 hag' v (hcell 0 v hv1)⟩
            · rw [hag', cond_true] at hq
              exact ⟨_, hq, f2 hag' _ (shMk_length _ _ _) hcell⟩
        · cases hag' : ag
          · rw [hag', cond_false] at hq
            split at hq
            · rename_i x hx'
              exact ⟨_, hq, f1 hag' _ hx'⟩
            · exact hq.elim
          · rw [hag', cond_true] at hq
            obtain ⟨u, hu⟩ := hm.sat.getB hk
            have hs : VecSat w1 e sz u m xs := hm.sat.blk k _ u hk hu
            have hlen : i * sz + off + n ≤ xs.length := by
              rw [hs.view.1]
              calc i * sz + off + n ≤ i * sz + sz := by omega
                _ = (i + 1) * sz := by rw [Nat.add_mul, Nat.one_mul]
                _ ≤ m * sz := Nat.mul_le_mul_right _ him
            refine ⟨_, hq, f2 hag' _ (by simp; omega) fun j v hj => ?_⟩
            rw [List.getElem?_take] at hj
            split at hj
            · rw [List.getElem?_drop] at hj
              rw [← hj]; congr 1; omega
            · cases hj
    · exact hq.elim
  · exact hq.elim
end
end Go.Proofs.Ytapogkodlempkaa.Sym
