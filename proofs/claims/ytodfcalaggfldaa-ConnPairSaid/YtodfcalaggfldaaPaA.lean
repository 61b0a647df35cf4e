/- Packets, plainly: what is wrong with them; what a value that is a packet holds; functions that read packets. No conditions. -/
import Derived.Test.YtodfcalaggfldaaOpA
import Derived.Test.YtodfcalaggfldaaHdB
import Derived.Test.YtodfcalaggfldaaInA
namespace Go.Proofs.Ytodfcalaggfldaa
set_option linter.unusedVariables false
set_option linter.unusedSimpArgs false
open Go.RowKit Sym Go.ChangeShapes Go.WideShapes Go.ChangeMaps Inet

/-- a packet but for its options -/
structure Pk where
  kind : Int
  long : Bool
  src : Int
  dst : Int
  ccval : Int
  cover : Int
  seq : Int
  ack : Int
  service : Int
  code : Int
  detail : Int
  data : ByteArray
def Pk.v (p : Pk) (o : Value) : Value := .agg #[.int .i64 p.kind, .bool p.long, .int .i64 p.src, .int .i64 p.dst, .int .i64 p.ccval, .int .i64 p.cover, .int .i64 p.seq, .int .i64 p.ack, .int .i64 p.service, .int .i64 p.code, .int .i64 p.detail, o, .string p.data]
abbrev Pk.s (p : Pk) (o : SV) : SV := .agg [.v (.int .i64 p.kind), .v (.bool p.long), .v (.int .i64 p.src), .v (.int .i64 p.dst), .v (.int .i64 p.ccval), .v (.int .i64 p.cover), .v (.int .i64 p.seq), .v (.int .i64 p.ack), .v (.int .i64 p.service), .v (.int .i64 p.code), .v (.int .i64 p.detail), o, .v (.string p.data)]
theorem Pk.s_to (p : Pk) {B : List Value} {o : SV} {u : Value} (h : o.to B = some u) : (p.s o).to B = some (p.v u) := by
  simp [Pk.s, Pk.v, SV.to, SV.tos, h]
/-! what a value that is a packet holds -/
def sInt : SV → Option Int | .v (.int .i64 z) => some z | _ => none
def sBool : SV → Option Bool | .v (.bool b) => some b | _ => none
def sStr : SV → Option ByteArray | .v (.string b) => some b | _ => none
theorem sInt_ok {s : SV} {z : Int} (h : sInt s = some z) : s = .v (.int .i64 z) := by
  unfold sInt at h
  split at h
  · simp only [Option.some.injEq] at h; subst h; rfl
  · cases h
theorem sBool_ok {s : SV} {z : Bool} (h : sBool s = some z) : s = .v (.bool z) := by
  unfold sBool at h
  split at h
  · simp only [Option.some.injEq] at h; subst h; rfl
  · cases h
theorem sStr_ok {s : SV} {z : ByteArray} (h : sStr s = some z) : s = .v (.string z) := by
  unfold sStr at h
  split at h
  · simp only [Option.some.injEq] at h; subst h; rfl
  · cases h
def pkOf : List SV → Option (Pk × SV)
  | [a, b, c, d, e, f, g, h, i, j, k, o, m] => (sInt a).bind fun a => (sBool b).bind fun b => (sInt c).bind fun c => (sInt d).bind fun d => (sInt e).bind fun e => (sInt f).bind fun f => (sInt g).bind fun g => (sInt h).bind fun h => (sInt i).bind fun i => (sInt j).bind fun j => (sInt k).bind fun k => (sStr m).bind fun m => some (⟨a, b, c, d, e, f, g, h, i, j, k, m⟩, o)
  | _ => none
theorem pkOf_ok {l : List SV} {p : Pk} {o : SV} (h : pkOf l = some (p, o)) : SV.agg l = p.s o := by
  unfold pkOf at h
  split at h
  · simp only [Option.bind_eq_some_iff, Option.some.injEq, Prod.mk.injEq] at h
    obtain ⟨a, ha, b, hb, c, hc, d, hd, e, he, f, hf, g, hg, h, hh, i, hi, j, hj, k, hk, m, hm, rfl, rfl⟩ := h
    rw [sInt_ok ha, sBool_ok hb, sInt_ok hc, sInt_ok hd, sInt_ok he, sInt_ok hf, sInt_ok hg, sInt_ok hh, sInt_ok hi, sInt_ok hj, sInt_ok hk, sStr_ok hm]
  · cases h
def pkIn (H : List Blk) (s : SV) : Option (Pk × Nat × (Nat → Nat → Value)) := (aggOf s).bind fun l => (pkOf l).bind fun r => (rowIn 2 H r.2).bind fun q => some (r.1, q.1, q.2)
theorem pkIn_ok {w0 : World} {bs : List Nat} {H : List Blk} {B : List Value} {w : World} (hm : Mem w0 bs H B w) {s : SV} {u : Value} (hs : s.to B = some u) {p : Pk} {n : Nat} {f : Nat → Nat → Value} (h : pkIn H s = some (p, n, f)) :
    ∃ o, u = p.v o ∧ ∀ B', BlkSat B' w o (.row n 2 f) := by
  unfold pkIn at h
  simp only [Option.bind_eq_some_iff, Option.some.injEq, Prod.mk.injEq] at h
  obtain ⟨l, hl, ⟨p', so⟩, hp, ⟨n', f'⟩, hr, rfl, rfl, rfl⟩ := h
  obtain ⟨vs, hv, rfl⟩ := aggOf_ok hs hl
  have e := pkOf_ok hp
  simp only [Pk.s, SV.agg.injEq] at e
  subst e
  obtain ⟨x0, r0, e0, v0, rfl⟩ := tos_cons hv
  obtain ⟨x1, r1, e1, v1, rfl⟩ := tos_cons v0
  obtain ⟨x2, r2, e2, v2, rfl⟩ := tos_cons v1
  obtain ⟨x3, r3, e3, v3, rfl⟩ := tos_cons v2
  obtain ⟨x4, r4, e4, v4, rfl⟩ := tos_cons v3
  obtain ⟨x5, r5, e5, v5, rfl⟩ := tos_cons v4
  obtain ⟨x6, r6, e6, v6, rfl⟩ := tos_cons v5
  obtain ⟨x7, r7, e7, v7, rfl⟩ := tos_cons v6
  obtain ⟨x8, r8, e8, v8, rfl⟩ := tos_cons v7
  obtain ⟨x9, r9, e9, v9, rfl⟩ := tos_cons v8
  obtain ⟨x10, r10, e10, v10, rfl⟩ := tos_cons v9
  obtain ⟨x11, r11, e11, v11, rfl⟩ := tos_cons v10
  obtain ⟨x12, r12, e12, v12, rfl⟩ := tos_cons v11
  obtain rfl := tos_nil v12
  simp only [SV.to, Option.some.injEq] at e0 e1 e2 e3 e4 e5 e6 e7 e8 e9 e10 e12
  subst e0 e1 e2 e3 e4 e5 e6 e7 e8 e9 e10 e12
  exact ⟨x11, rfl, rowIn_ok hm e11 hr⟩
/-- a function of a packet -/
def rdP (pp : Pk → Nat → (Nat → Nat → Value) → Prop) (r : Pk → Nat → (Nat → Nat → Value) → Value) : List SV → List Blk → Option (List Prop × Value)
  | [s], H => (pkIn H s).bind fun q => some ([pp q.1 q.2.1 q.2.2], r q.1 q.2.1 q.2.2)
  | _, _ => none
theorem rdP_ok {P : Program} {k : FuncId} {pp : Pk → Nat → (Nat → Nat → Value) → Prop} {r : Pk → Nat → (Nat → Nat → Value) → Value} (hc : ∀ (p : Pk) (n : Nat) (fr : Nat → Nat → Value) (o : Value) (w : World), (∀ B, BlkSat B w o (.row n 2 fr)) → pp p n fr → Calls P k #[p.v o] w fun e w' => e = .returned (r p n fr) ∧ Below w.heap.size w w') : ReadOk P k (rdP pp r) := by
  intro ss H q v h bs B w vs hm hv hp
  unfold rdP at h
  split at h
  · simp only [Option.bind_eq_some_iff, Option.some.injEq, Prod.mk.injEq] at h
    obtain ⟨⟨p, n, f⟩, hr, rfl, rfl⟩ := h
    obtain ⟨x0, r0, e0, v0, rfl⟩ := tos_cons hv
    obtain rfl := tos_nil v0
    obtain ⟨o, rfl, hb⟩ := pkIn_ok hm e0 hr
    exact hc p n f o w hb (hp _ (List.mem_cons_self ..))
  · cases h
/-- a function of two packets -/
def rdPP (pp : Pk → Nat → (Nat → Nat → Value) → Pk → Nat → (Nat → Nat → Value) → Prop) (r : Pk → Nat → (Nat → Nat → Value) → Pk → Nat → (Nat → Nat → Value) → Value) : List SV → List Blk → Option (List Prop × Value)
  | [s, t], H => (pkIn H s).bind fun q => (pkIn H t).bind fun q' => some ([pp q.1 q.2.1 q.2.2 q'.1 q'.2.1 q'.2.2], r q.1 q.2.1 q.2.2 q'.1 q'.2.1 q'.2.2)
  | _, _ => none
theorem rdPP_ok {P : Program} {k : FuncId} {pp : Pk → Nat → (Nat → Nat → Value) → Pk → Nat → (Nat → Nat → Value) → Prop} {r : Pk → Nat → (Nat → Nat → Value) → Pk → Nat → (Nat → Nat → Value) → Value} (hc : ∀ (p : Pk) (n : Nat) (fr : Nat → Nat → Value) (o : Value) (p' : Pk) (n' : Nat) (fr' : Nat → Nat → Value) (o' : Value) (w : World), (∀ B, BlkSat B w o (.row n 2 fr)) → (∀ B, BlkSat B w o' (.row n' 2 fr')) → pp p n fr p' n' fr' → Calls P k #[p.v o, p'.v o'] w fun e w' => e = .returned (r p n fr p' n' fr') ∧ Below w.heap.size w w') : ReadOk P k (rdPP pp r) := by
  intro ss H q v h bs B w vs hm hv hp
  unfold rdPP at h
  split at h
  · simp only [Option.bind_eq_some_iff, Option.some.injEq, Prod.mk.injEq] at h
    obtain ⟨⟨p, n, f⟩, hr, ⟨p', n', f'⟩, hr', rfl, rfl⟩ := h
    obtain ⟨x0, r0, e0, v0, rfl⟩ := tos_cons hv
    obtain ⟨x1, r1, e1, v1, rfl⟩ := tos_cons v0
    obtain rfl := tos_nil v1
    obtain ⟨o, rfl, hb⟩ := pkIn_ok hm e0 hr
    obtain ⟨o', rfl, hb'⟩ := pkIn_ok hm e1 hr'
    exact hc p n f o p' n' f' o' w hb hb' (hp _ (List.mem_cons_self ..))
  · cases h
/-! memory of two letters that are only read -/
theorem mem_rows {w : World} {u v : Value} {n m sz tz : Nat} {f g : Nat → Nat → Value} (h : ∀ B, BlkSat B w u (.row n sz f)) (h' : ∀ B, BlkSat B w v (.row m tz g)) : Mem w [] [.row n sz f, .row m tz g] [u, v] w := by
  have noex : ∀ k b, ¬ ExBlk [.row n sz f, .row m tz g] [u, v] k b := by
    rintro k b ⟨x, y, g1, g2, -, -⟩
    match k with
    | 0 => simp only [List.getElem?_cons_zero, Option.some.injEq] at g1; subst g1; cases g2
    | 1 => simp only [List.getElem?_cons_succ, List.getElem?_cons_zero, Option.some.injEq] at g1; subst g1; cases g2
    | k + 2 => simp at g1
  refine ⟨⟨rfl, fun k x y h1 h2 => ?_, fun k j b h1 h2 => absurd h1 (noex k b), fun k j b h1 h2 => absurd h1 (noex k b)⟩, .refl _ _, fun k b h1 => absurd h1 (noex k b)⟩
  match k with
  | 0 => simp only [List.getElem?_cons_zero, Option.some.injEq] at h1 h2; subst h1; subst h2; exact h _
  | 1 => simp only [List.getElem?_cons_succ, List.getElem?_cons_zero, Option.some.injEq] at h1 h2; subst h1; subst h2; exact h' _
  | k + 2 => simp at h1
/-! what is wrong with a packet -/
def wn (n below : Int) : Bool := decide (0 ≤ n ∧ n < below)
def served (k : Int) : Bool := decide (k = 0 ∨ k = 1)
def numP (p : Pk) : Bool := !(Head.acks p.kind && !wn p.ack (Head.most p.long) || served p.kind && !wn p.service 4294967296) && (!decide (p.kind = 7) || wn p.code 256 && wn p.detail 16777216)
def spareP (p : Pk) : Bool := (!Head.acks p.kind && !decide (p.ack = 0)) || (!served p.kind && !decide (p.service = 0)) || (!decide (p.kind = 7) && (!decide (p.code = 0) || !decide (p.detail = 0))) || (!Head.bears p.kind && !decide (p.data.size = 0))
def wordsP (p : Pk) (n : Nat) (g : Nat → Op) : Int := min ((Head.size p.kind p.long + sizeL g n + 3) / 4) 255
def begH (p : Pk) (n : Nat) (g : Nat → Op) (sum : Int) : Head.H := ⟨p.src, p.dst, wordsP p n g, p.ccval, p.cover, sum, p.kind, p.long, p.seq⟩
def chkP (p : Pk) (n : Nat) (g : Nat → Op) : Int :=
  if Head.check (begH p n g 0) = 0 then
    if numP p = true then
      if chkO n g = 0 then
        if p.data.size > 200 then 11 else if spareP p = true then 4 else if covOk p.data p.cover = true then 0 else 3
      else chkO n g
    else 3
  else Head.check (begH p n g 0)
/-- neither too many options nor too many bytes -/
def FewP (p : Pk) (n : Nat) (g : Nat → Op) : Prop := Few n g ∧ p.data.size ≤ 1000000
end Go.Proofs.Ytodfcalaggfldaa
namespace Go.Proofs.Ytodfcalaggfldaa
set_option linter.unusedVariables false
set_option linter.unusedSimpArgs false
open Go.RowKit Sym

/-! as bytes -/
def bytesO (o : Op) : List UInt8 := UInt8.ofNat o.kind.toNat :: (if o.kind ≤ 31 then [] else UInt8.ofNat (o.val.size + 2) :: o.val.data.toList)
def optL (g : Nat → Op) : Nat → List UInt8
  | 0 => []
  | i + 1 => optL g i ++ bytesO (g i)
def padN (n : Nat) : Nat := (4 - n % 4) % 4
def optP (n : Nat) (g : Nat → Op) : List UInt8 := optL g n ++ List.replicate (padN (optL g n).length) 0
/-! what bytes say -/
def kindR (s : ByteArray) (a : Nat) : Int := byteAt s a
def manyR (s : ByteArray) (a : Nat) : Int := byteAt s (a + 1 : Nat)
def pos1 (s : ByteArray) (a : Nat) : Nat := if kindR s a < 32 then a + 1 else a + (manyR s a).toNat
def acc1 (s : ByteArray) (a : Nat) : List Op := if kindR s a < 32 then (if kindR s a > 0 then [⟨kindR s a, ⟨⟨[]⟩⟩⟩] else []) else [⟨kindR s a, s.extract (a + 2) (a + (manyR s a).toNat)⟩]
def err1 (s : ByteArray) (a : Nat) : Int := if kindR s a < 32 then 0 else if s.size ≤ a + 1 then 1 else if manyR s a < 2 then 4 else if (s.size : Int) < a + manyR s a then 1 else 0
def posR (s : ByteArray) : Nat → Nat
  | 0 => 0
  | i + 1 => pos1 s (posR s i)
def accR (s : ByteArray) : Nat → List Op
  | 0 => []
  | i + 1 => accR s i ++ acc1 s (posR s i)
def stopR (s : ByteArray) (i : Nat) : Bool := Nat.ble s.size (posR s i) || !decide (err1 s (posR s i) = 0)
def endR (s : ByteArray) : Nat := firstOf (stopR s) (s.size + 1) 0
def errR (s : ByteArray) : Int := if s.size ≤ posR s (endR s) then 0 else err1 s (posR s (endR s))
theorem byteAt_in (s : ByteArray) (i : Int) : 0 ≤ byteAt s i ∧ byteAt s i < 256 := by
  unfold byteAt
  have := (s.data.toList.getD i.toNat 0).toNat_lt
  omega
theorem stopR_no {s : ByteArray} {i : Nat} (h : stopR s i = false) : posR s i < s.size ∧ err1 s (posR s i) = 0 := by
  unfold stopR at h
  simp only [Bool.or_eq_false_iff, Bool.not_eq_false', decide_eq_true_eq] at h
  obtain ⟨a, b⟩ := h
  rw [← Bool.not_eq_true, Nat.ble_eq] at a
  exact ⟨by omega, b⟩
theorem stopR_yes {s : ByteArray} {i : Nat} (h : stopR s i = true) : s.size ≤ posR s i ∨ ¬ err1 s (posR s i) = 0 := by
  unfold stopR at h
  simp only [Bool.or_eq_true, Nat.ble_eq, Bool.not_eq_true', decide_eq_false_iff_not] at h
  exact h
theorem pos1_up (s : ByteArray) (a : Nat) (h : a < s.size) (he : err1 s a = 0) : a + 1 ≤ pos1 s a ∧ pos1 s a ≤ s.size := by
  have hm := byteAt_in s (a + 1 : Nat)
  unfold pos1
  unfold err1 at he
  split at he
  · rename_i hk; rw [if_pos hk]; omega
  · rename_i hk
    rw [if_neg hk]
    split at he
    · cases he
    · split at he
      · cases he
      · split at he
        · cases he
        · unfold manyR at *
          omega
theorem endR_le (s : ByteArray) : endR s ≤ s.size + 1 ∧ ∀ j, j < endR s → posR s j < s.size ∧ err1 s (posR s j) = 0 := by
  obtain ⟨h1, h2, -⟩ := firstOf_le (stopR s) (s.size + 1)
  exact ⟨h1, fun j hj => stopR_no (h2 j hj)⟩
theorem posR_up (s : ByteArray) : ∀ i, i ≤ endR s → i ≤ posR s i ∧ posR s i ≤ s.size
  | 0, _ => ⟨Nat.le_refl _, Nat.zero_le _⟩
  | i + 1, h => by
    obtain ⟨h1, h2⟩ := posR_up s i (by omega)
    obtain ⟨h3, h4⟩ := (endR_le s).2 i (by omega)
    have := pos1_up s _ h3 h4
    simp only [posR]
    omega
theorem endR_size (s : ByteArray) : endR s ≤ s.size := Nat.le_trans (posR_up s (endR s) (Nat.le_refl _)).1 (posR_up s (endR s) (Nat.le_refl _)).2
theorem endR_stop (s : ByteArray) : s.size ≤ posR s (endR s) ∨ ¬ err1 s (posR s (endR s)) = 0 := by
  obtain ⟨-, -, h3⟩ := firstOf_le (stopR s) (s.size + 1)
  exact stopR_yes (h3 (by have := endR_size s; unfold endR at this; omega))
theorem acc1_len (s : ByteArray) (a : Nat) : (acc1 s a).length ≤ 1 := by
  unfold acc1
  split
  · split <;> simp
  · simp
theorem accR_len (s : ByteArray) : ∀ i, (accR s i).length ≤ i
  | 0 => Nat.le_refl _
  | i + 1 => by
    have := accR_len s i
    have := acc1_len s (posR s i)
    simp only [accR, List.length_append]; omega
theorem acc1_val (s : ByteArray) (a : Nat) : ∀ o ∈ acc1 s a, o.val.size ≤ s.size := by
  intro o ho
  unfold acc1 at ho
  split at ho
  · split at ho
    · simp only [List.mem_singleton] at ho; subst ho; exact Nat.zero_le _
    · cases ho
  · simp only [List.mem_singleton] at ho; subst ho
    show (s.extract _ _).size ≤ _
    rw [ByteArray.size_extract]; omega
theorem accR_val (s : ByteArray) : ∀ i, ∀ o ∈ accR s i, o.val.size ≤ s.size
  | 0, _, h => by cases h
  | i + 1, o, h => by
    simp only [accR, List.mem_append] at h
    rcases h with h | h
    · exact accR_val s i o h
    · exact acc1_val s _ o h
/-- the options that a text says -/
def optsOf (s : ByteArray) : List Op := accR s (endR s)
/-! a list of options as a slice's cells -/
def opCells (l : List Op) : List Value := l.flatMap fun o => [.int .i64 o.kind, .string o.val]
def opN (l : List Op) (i : Nat) : Op := l.getD i ⟨0, ⟨⟨[]⟩⟩⟩
theorem opCells_cons (o : Op) (l : List Op) : opCells (o :: l) = .int .i64 o.kind :: .string o.val :: opCells l := rfl
theorem opCells_append (l m : List Op) : opCells (l ++ m) = opCells l ++ opCells m := by simp [opCells]
theorem opCells_length : ∀ l : List Op, (opCells l).length = l.length * 2
  | [] => rfl
  | o :: l => by rw [opCells_cons]; simp only [List.length_cons, opCells_length l]; omega
theorem opCells_at : ∀ (l : List Op) (i : Nat), i < l.length → cellAt (opCells l) (i * 2 + 0) = .int .i64 (opN l i).kind ∧ cellAt (opCells l) (i * 2 + 1) = .string (opN l i).val
  | [], _, h => absurd h (Nat.not_lt_zero _)
  | o :: l, 0, _ => ⟨rfl, rfl⟩
  | o :: l, i + 1, h => by
    have := opCells_at l i (by simp at h; omega)
    rw [opCells_cons]
    rw [show (i + 1) * 2 + 0 = (i * 2 + 0) + 1 + 1 by omega, show (i + 1) * 2 + 1 = (i * 2 + 1) + 1 + 1 by omega]
    exact this
theorem opCells_row (l : List Op) : AllOp l.length (fun i j => cellAt (opCells l) (i * 2 + j)) ∧ ∀ i, i < l.length → opF (fun i j => cellAt (opCells l) (i * 2 + j)) i = opN l i := by
  have e : ∀ i, i < l.length → opF (fun i j => cellAt (opCells l) (i * 2 + j)) i = opN l i := by
    intro i hi
    obtain ⟨a, b⟩ := opCells_at l i hi
    unfold opF
    simp only [a, b, intV, strV]
  refine ⟨fun i hi j hj => ?_, e⟩
  rw [e i hi]
  obtain ⟨a, b⟩ := opCells_at l i hi
  match j, hj with
  | 0, _ => exact a
  | 1, _ => exact b
theorem opCells_one (l : List Op) : allOneP (opCells l) := by
  intro u hu
  unfold opCells at hu
  simp only [List.mem_flatMap] at hu
  obtain ⟨o, -, h⟩ := hu
  simp only [List.mem_cons, List.not_mem_nil, or_false] at h
  rcases h with rfl | rfl <;> rfl
/-! what is asked of a row is asked of its elements alone -/
theorem firstOf_congr {p q : Nat → Bool} : ∀ {n i : Nat}, (∀ j, i ≤ j → j < i + n → p j = q j) → firstOf p n i = firstOf q n i := by
  intro n
  induction n with
  | zero => intro i _; rfl
  | succ n ih =>
    intro i h
    unfold firstOf
    rw [h i (Nat.le_refl _) (by omega), ih (i := i + 1) (fun j h1 h2 => h j (by omega) (by omega))]
theorem sizeL_congr {g h : Nat → Op} : ∀ {n : Nat}, (∀ i, i < n → g i = h i) → sizeL g n = sizeL h n
  | 0, _ => rfl
  | n + 1, e => by simp only [sizeL]; rw [sizeL_congr (fun i hi => e i (by omega)), e n (by omega)]
theorem chkO_congr {n : Nat} {g h : Nat → Op} (e : ∀ i, i < n → g i = h i) : chkO n g = chkO n h := by
  have e1 : badE n g = badE n h := firstOf_congr fun j _ hj => by unfold badO; rw [e j (by omega)]
  have e2 : mandE n g = mandE n h := firstOf_congr fun j _ hj => by
    unfold mandO
    rw [e j (by omega)]
    by_cases hl : j + 1 < n
    · rw [e (j + 1) hl]
    · have : j + 1 = n := by omega
      simp [this]
  unfold chkO
  rw [e1, e2, sizeL_congr e]
  by_cases hb : badE n h < n
  · rw [if_pos hb, if_pos hb, e _ hb]
  · rw [if_neg hb, if_neg hb]
theorem optL_congr {g h : Nat → Op} : ∀ {n : Nat}, (∀ i, i < n → g i = h i) → optL g n = optL h n
  | 0, _ => rfl
  | n + 1, e => by simp only [optL]; rw [optL_congr (fun i hi => e i (by omega)), e n (by omega)]
/-- how many bytes options have, that are right -/
theorem bytesO_len {o : Op} (h : rightO o = 0) : ((bytesO o).length : Int) = sizeO o := by
  obtain ⟨r1, r2, r3, r4⟩ := rightO_ok h
  unfold bytesO sizeO
  split
  · rfl
  · simp only [List.length_cons]
    have : o.val.data.toList.length = o.val.size := by simp
    omega
theorem chkO_ok {n : Nat} {g : Nat → Op} (h : chkO n g = 0) : (∀ i, i < n → rightO (g i) = 0) ∧ sizeL g n ≤ 400 := by
  obtain ⟨b1, b2, b3⟩ := badE_spec n g
  unfold chkO at h
  split at h
  · rename_i hb; exact absurd h (b3 hb)
  · rename_i hb
    have e : badE n g = n := by omega
    split at h
    · cases h
    · split at h
      · cases h
      · exact ⟨fun i hi => b2 i (by omega), by omega⟩
theorem optL_len {g : Nat → Op} : ∀ {n : Nat}, (∀ i, i < n → rightO (g i) = 0) → ((optL g n).length : Int) = sizeL g n
  | 0, _ => rfl
  | n + 1, h => by
    simp only [optL, sizeL, List.length_append, Int.natCast_add]
    rw [optL_len (fun i hi => h i (by omega)), bytesO_len (h n (by omega))]
end Go.Proofs.Ytodfcalaggfldaa
namespace Go.Proofs.Ytodfcalaggfldaa
set_option linter.unusedVariables false
set_option linter.unusedSimpArgs false
open Go.RowKit Sym Go.ChangeShapes Go.WideShapes Go.ChangeMaps Inet

def covV (h d : ByteArray) (c : Int) : Value := .tuple #[.string (covB h d c), .bool (covOk d c)]
theorem inet_Covered (h d : ByteArray) (c : Int) (hs : h.size ≤ 1000000 ∧ d.size ≤ 1000000) (w : World) : Calls Try.prog 57 #[.string h, .string d, .int .i64 c] w fun e w' => e = .returned (covV h d c) ∧ Below w.heap.size w w' := by
  refine calls_runV (onlyS_ok noS_ok) follows Try.func57 (by kernel_rfl) (by kernel_rfl) noL_ok (cov_run h d c) ?_ w
  obtain ⟨h1, h2⟩ := hs
  unfold covV covB covOk
  have hw : 0 ≤ c → c ≤ 15 → IntKind.i64.wrap (4 * IntKind.i64.wrap (c - 1)) = 4 * (c - 1) := fun a b => by rw [w64 (c - 1) (by omega) (by omega), w64 _ (by omega) (by omega)]
  have e0 : d.extract 0 d.size = d := by apply ByteArray.ext; simp
  by_cases c0 : 0 ≤ c
  · by_cases c1 : c ≤ 15
    · rw [hw c0 c1]
      by_cases cz : c = 0
      · subst cz
        simp [T.ok, e0] <;> omega
      · by_cases cd : 4 * (c - 1) ≤ d.size
        · simp [T.ok, c0, c1, cz, cd] <;> omega
        · simp [T.ok, c0, c1, cz, cd] <;> omega
    · simp [T.ok, c0, c1] <;> omega
  · simp [T.ok, c0] <;> omega
theorem ref04_Covered (h d : ByteArray) (c : Int) (hs : h.size ≤ 1000000 ∧ d.size ≤ 1000000) (w : World) : Calls Try.prog 64 #[.string h, .string d, .int .i64 c] w fun e w' => e = .returned (covV h d c) ∧ Below w.heap.size w w' := by
  refine calls_runV (onlyS_ok noS_ok) follows Try.func64 (by kernel_rfl) (by kernel_rfl) noL_ok (covR_run h d c) ?_ w
  obtain ⟨h1, h2⟩ := hs
  unfold covV covB covOk
  have hw : 0 ≤ c → c ≤ 15 → IntKind.i64.wrap (4 * IntKind.i64.wrap (c - 1)) = 4 * (c - 1) := fun a b => by rw [w64 (c - 1) (by omega) (by omega), w64 _ (by omega) (by omega)]
  by_cases c0 : 0 ≤ c
  · by_cases c1 : c ≤ 15
    · rw [hw c0 c1]
      by_cases cz : c = 0
      · subst cz
        simp [T.ok] <;> omega
      · by_cases cd : 4 * (c - 1) ≤ d.size
        · simp [T.ok, c0, c1, cz, cd] <;> omega
        · simp [T.ok, c0, c1, cz, cd] <;> omega
    · simp [T.ok, c0, c1] <;> omega
  · simp [T.ok, c0] <;> omega
def tCov : List Value → Option (List Prop × Value) | [.string h, .string d, .int .i64 c] => some ([h.size ≤ 1000000 ∧ d.size ≤ 1000000], .tuple #[.string (covB h d c), .bool (covOk d c)]) | _ => none
set_option maxRecDepth 100000 in
theorem pserved_run (k : Int) : runV Try.prog (onlyS Try.prog noS) noL Try.f97 [.int .i64 k] = .ite (decide (k = (0 : Int))) (.leaf (Value.bool true)) (.leaf (Value.bool (decide (k = (1 : Int))))) := by kernel_rfl
theorem packet_served (k : Int) (w : World) : Calls Try.prog 97 #[.int .i64 k] w fun e w' => e = .returned (.bool (served k)) ∧ Below w.heap.size w w' := by
  refine calls_runV (onlyS_ok noS_ok) follows Try.func97 (by kernel_rfl) (by kernel_rfl) noL_ok (pserved_run k) ?_ w
  unfold served
  by_cases h0 : k = 0 <;> by_cases h1 : k = 1 <;> simp [T.ok, h0, h1]
set_option maxRecDepth 100000 in
theorem pwithin_run (n m : Int) : runV Try.prog (onlyS Try.prog noS) noL Try.f108 [.int .i64 n, .int .i64 m] = .ite (decide (n ≥ (0 : Int))) (.leaf (Value.bool (decide (n < m)))) (.leaf (Value.bool false)) := by kernel_rfl
theorem packet_within (n m : Int) (w : World) : Calls Try.prog 108 #[.int .i64 n, .int .i64 m] w fun e w' => e = .returned (.bool (wn n m)) ∧ Below w.heap.size w w' := by
  refine calls_runV (onlyS_ok noS_ok) follows Try.func108 (by kernel_rfl) (by kernel_rfl) noL_ok (pwithin_run n m) ?_ w
  unfold wn
  by_cases h0 : 0 ≤ n <;> by_cases h1 : n < m <;> simp [T.ok, h0, h1]
set_option maxRecDepth 100000 in
theorem roff_run (n m : Int) : runV Try.prog (onlyS Try.prog noS) noL Try.f62 [.int .i64 n, .int .i64 m] = .ite (decide (n < (0 : Int))) (.leaf (Value.bool true)) (.leaf (Value.bool (decide (n ≥ m)))) := by kernel_rfl
theorem ref10_off (n m : Int) (w : World) : Calls Try.prog 62 #[.int .i64 n, .int .i64 m] w fun e w' => e = .returned (.bool (!wn n m)) ∧ Below w.heap.size w w' := by
  refine calls_runV (onlyS_ok noS_ok) follows Try.func62 (by kernel_rfl) (by kernel_rfl) noL_ok (roff_run n m) ?_ w
  unfold wn
  by_cases h0 : 0 ≤ n <;> by_cases h1 : n < m <;> simp [T.ok, h0, h1] <;> omega
def tServed : List Value → Option (List Prop × Value) | [.int .i64 k] => some ([], .bool (served k)) | _ => none
def tWn : List Value → Option (List Prop × Value) | [.int .i64 n, .int .i64 m] => some ([], .bool (wn n m)) | _ => none
def tWnN : List Value → Option (List Prop × Value) | [.int .i64 n, .int .i64 m] => some ([], .bool (!wn n m)) | _ => none
def SPk0 : Tab := addS 97 tServed <| addS 108 tWn <| addS 62 tWnN <| addS 57 tCov <| addS 64 tCov SHead3
theorem SPk0_ok : TabOk Try.prog SPk0 := by
  refine addS_ok (addS_ok (addS_ok (addS_ok (addS_ok SHead3_ok (by kernel_rfl) ?_) (by kernel_rfl) ?_) (by kernel_rfl) ?_) (by kernel_rfl) ?_) (by kernel_rfl) ?_
  · (intro xs p v h hp w; unfold tCov at h; (split at h) <;> first | (cases h; done) | (simp only [Option.some.injEq, Prod.mk.injEq] at h; obtain ⟨rfl, rfl⟩ := h; exact ref04_Covered _ _ _ (hp _ (List.mem_cons_self ..)) w))
  · (intro xs p v h hp w; unfold tCov at h; (split at h) <;> first | (cases h; done) | (simp only [Option.some.injEq, Prod.mk.injEq] at h; obtain ⟨rfl, rfl⟩ := h; exact inet_Covered _ _ _ (hp _ (List.mem_cons_self ..)) w))
  · (intro xs p v h hp w; unfold tWnN at h; (split at h) <;> first | (cases h; done) | (simp only [Option.some.injEq, Prod.mk.injEq] at h; obtain ⟨rfl, rfl⟩ := h; exact ref10_off _ _ w))
  · (intro xs p v h hp w; unfold tWn at h; (split at h) <;> first | (cases h; done) | (simp only [Option.some.injEq, Prod.mk.injEq] at h; obtain ⟨rfl, rfl⟩ := h; exact packet_within _ _ w))
  · (intro xs p v h hp w; unfold tServed at h; (split at h) <;> first | (cases h; done) | (simp only [Option.some.injEq, Prod.mk.injEq] at h; obtain ⟨rfl, rfl⟩ := h; exact packet_served _ w))
/-! the options' contracts -/
def FOpt2 : LTab := addR 25 (rd1 2 OpP fun n f => .int .i64 (chkO n (opF f))) <| addR 63 (rd1 2 OpP fun n f => .int .i64 (chkO n (opF f))) FOpt1
theorem FOpt2_ok : LOk Try.prog FOpt2 := addR_ok (addR_ok FOpt1_ok (by kernel_rfl) (rd1_ok fun n f v w hv hp => ref07_Check n (opF f) hp.2 v w (op_row hv hp.1)))
  (by kernel_rfl) (rd1_ok fun n f v w hv hp => opts_Check n (opF f) hp.2 v w (op_row hv hp.1))
abbrev fsOpt : List Nat := [69, 112, 25, 63]
abbrev CP0 (P : Program) : Cfg := both P SPk0 FOpt2 fsOpt
theorem CP0_ok : CfgOk Try.prog (CP0 Try.prog) := both_ok SPk0_ok FOpt2_ok
set_option maxRecDepth 100000 in
theorem pnum_run (p : Pk) (n : Nat) (f : Nat → Nat → Value) : runO Try.prog (CP0 Try.prog) noL Try.f56 [p.s (.ref 0)] [.row n 2 f] = .ite p.2 (.ite (Head.acks p.1) (.ite (!wn p.8 (281474976710656 : Int)) (.leaf (Value.bool false)) (.ite (served p.1) (.ite (!wn p.9 (4294967296 : Int)) (.leaf (Value.bool false)) (.ite (!decide (p.1 = (7 : Int))) (.leaf (Value.bool true)) (.ite (wn p.10 (256 : Int)) (.leaf (Value.bool (wn p.11 (16777216 : Int)))) (.leaf (Value.bool false))))) (.ite (!decide (p.1 = (7 : Int))) (.leaf (Value.bool true)) (.ite (wn p.10 (256 : Int)) (.leaf (Value.bool (wn p.11 (16777216 : Int)))) (.leaf (Value.bool false)))))) (.ite (served p.1) (.ite (!wn p.9 (4294967296 : Int)) (.leaf (Value.bool false)) (.ite (!decide (p.1 = (7 : Int))) (.leaf (Value.bool true)) (.ite (wn p.10 (256 : Int)) (.leaf (Value.bool (wn p.11 (16777216 : Int)))) (.leaf (Value.bool false))))) (.ite (!decide (p.1 = (7 : Int))) (.leaf (Value.bool true)) (.ite (wn p.10 (256 : Int)) (.leaf (Value.bool (wn p.11 (16777216 : Int)))) (.leaf (Value.bool false)))))) (.ite (Head.acks p.1) (.ite (!wn p.8 (16777216 : Int)) (.leaf (Value.bool false)) (.ite (served p.1) (.ite (!wn p.9 (4294967296 : Int)) (.leaf (Value.bool false)) (.ite (!decide (p.1 = (7 : Int))) (.leaf (Value.bool true)) (.ite (wn p.10 (256 : Int)) (.leaf (Value.bool (wn p.11 (16777216 : Int)))) (.leaf (Value.bool false))))) (.ite (!decide (p.1 = (7 : Int))) (.leaf (Value.bool true)) (.ite (wn p.10 (256 : Int)) (.leaf (Value.bool (wn p.11 (16777216 : Int)))) (.leaf (Value.bool false)))))) (.ite (served p.1) (.ite (!wn p.9 (4294967296 : Int)) (.leaf (Value.bool false)) (.ite (!decide (p.1 = (7 : Int))) (.leaf (Value.bool true)) (.ite (wn p.10 (256 : Int)) (.leaf (Value.bool (wn p.11 (16777216 : Int)))) (.leaf (Value.bool false))))) (.ite (!decide (p.1 = (7 : Int))) (.leaf (Value.bool true)) (.ite (wn p.10 (256 : Int)) (.leaf (Value.bool (wn p.11 (16777216 : Int)))) (.leaf (Value.bool false)))))) := by kernel_rfl
set_option maxRecDepth 100000 in
theorem pspare_run (p : Pk) (n : Nat) (f : Nat → Nat → Value) : runO Try.prog (CP0 Try.prog) noL Try.f58 [p.s (.ref 0)] [.row n 2 f] = .ite (!Head.acks p.1) (.ite (!decide (p.8 = (0 : Int))) (.leaf (Value.bool true)) (.ite (!served p.1) (.ite (!decide (p.9 = (0 : Int))) (.leaf (Value.bool true)) (.ite (!decide (p.1 = (7 : Int))) (.ite (!decide (p.10 = (0 : Int))) (.leaf (Value.bool true)) (.ite (!decide (p.11 = (0 : Int))) (.leaf (Value.bool true)) (.ite (!Head.bears p.1) (.leaf (Value.bool !decide (p.12 = ByteArray.mk (Array.mk [])))) (.leaf (Value.bool false))))) (.ite (!Head.bears p.1) (.leaf (Value.bool !decide (p.12 = ByteArray.mk (Array.mk [])))) (.leaf (Value.bool false))))) (.ite (!decide (p.1 = (7 : Int))) (.ite (!decide (p.10 = (0 : Int))) (.leaf (Value.bool true)) (.ite (!decide (p.11 = (0 : Int))) (.leaf (Value.bool true)) (.ite (!Head.bears p.1) (.leaf (Value.bool !decide (p.12 = ByteArray.mk (Array.mk [])))) (.leaf (Value.bool false))))) (.ite (!Head.bears p.1) (.leaf (Value.bool !decide (p.12 = ByteArray.mk (Array.mk [])))) (.leaf (Value.bool false)))))) (.ite (!served p.1) (.ite (!decide (p.9 = (0 : Int))) (.leaf (Value.bool true)) (.ite (!decide (p.1 = (7 : Int))) (.ite (!decide (p.10 = (0 : Int))) (.leaf (Value.bool true)) (.ite (!decide (p.11 = (0 : Int))) (.leaf (Value.bool true)) (.ite (!Head.bears p.1) (.leaf (Value.bool !decide (p.12 = ByteArray.mk (Array.mk [])))) (.leaf (Value.bool false))))) (.ite (!Head.bears p.1) (.leaf (Value.bool !decide (p.12 = ByteArray.mk (Array.mk [])))) (.leaf (Value.bool false))))) (.ite (!decide (p.1 = (7 : Int))) (.ite (!decide (p.10 = (0 : Int))) (.leaf (Value.bool true)) (.ite (!decide (p.11 = (0 : Int))) (.leaf (Value.bool true)) (.ite (!Head.bears p.1) (.leaf (Value.bool !decide (p.12 = ByteArray.mk (Array.mk [])))) (.leaf (Value.bool false))))) (.ite (!Head.bears p.1) (.leaf (Value.bool !decide (p.12 = ByteArray.mk (Array.mk [])))) (.leaf (Value.bool false))))) := by kernel_rfl
set_option maxRecDepth 100000 in
theorem pspareR_run (p : Pk) (n : Nat) (f : Nat → Nat → Value) : runO Try.prog (CP0 Try.prog) noL Try.f65 [p.s (.ref 0)] [.row n 2 f] = .ite (!Head.acks p.1) (.ite (!decide (p.8 = (0 : Int))) (.leaf (Value.bool true)) (.ite (decide (p.1 > (1 : Int))) (.ite (!decide (p.9 = (0 : Int))) (.leaf (Value.bool true)) (.ite (!decide (p.1 = (7 : Int))) (.ite (!decide (p.10 = (0 : Int))) (.leaf (Value.bool true)) (.ite (!decide (p.11 = (0 : Int))) (.leaf (Value.bool true)) (.ite (!Head.bears p.1) (.leaf (Value.bool !decide (p.12 = ByteArray.mk (Array.mk [])))) (.leaf (Value.bool false))))) (.ite (!Head.bears p.1) (.leaf (Value.bool !decide (p.12 = ByteArray.mk (Array.mk [])))) (.leaf (Value.bool false))))) (.ite (!decide (p.1 = (7 : Int))) (.ite (!decide (p.10 = (0 : Int))) (.leaf (Value.bool true)) (.ite (!decide (p.11 = (0 : Int))) (.leaf (Value.bool true)) (.ite (!Head.bears p.1) (.leaf (Value.bool !decide (p.12 = ByteArray.mk (Array.mk [])))) (.leaf (Value.bool false))))) (.ite (!Head.bears p.1) (.leaf (Value.bool !decide (p.12 = ByteArray.mk (Array.mk [])))) (.leaf (Value.bool false)))))) (.ite (decide (p.1 > (1 : Int))) (.ite (!decide (p.9 = (0 : Int))) (.leaf (Value.bool true)) (.ite (!decide (p.1 = (7 : Int))) (.ite (!decide (p.10 = (0 : Int))) (.leaf (Value.bool true)) (.ite (!decide (p.11 = (0 : Int))) (.leaf (Value.bool true)) (.ite (!Head.bears p.1) (.leaf (Value.bool !decide (p.12 = ByteArray.mk (Array.mk [])))) (.leaf (Value.bool false))))) (.ite (!Head.bears p.1) (.leaf (Value.bool !decide (p.12 = ByteArray.mk (Array.mk [])))) (.leaf (Value.bool false))))) (.ite (!decide (p.1 = (7 : Int))) (.ite (!decide (p.10 = (0 : Int))) (.leaf (Value.bool true)) (.ite (!decide (p.11 = (0 : Int))) (.leaf (Value.bool true)) (.ite (!Head.bears p.1) (.leaf (Value.bool !decide (p.12 = ByteArray.mk (Array.mk [])))) (.leaf (Value.bool false))))) (.ite (!Head.bears p.1) (.leaf (Value.bool !decide (p.12 = ByteArray.mk (Array.mk [])))) (.leaf (Value.bool false))))) := by kernel_rfl
set_option maxRecDepth 100000 in
theorem pbegin_run (p : Pk) (n : Nat) (f : Nat → Nat → Value) : runO Try.prog (CP0 Try.prog) noL Try.f47 [p.s (.ref 0)] [.row n 2 f] = .need (OpP n f) (.leaf (Value.agg (Array.mk [Value.int IntKind.i64 p.3, Value.int IntKind.i64 p.4, Value.int IntKind.i64 (if (255 : Int) < IntKind.i64.wrap ((IntKind.i64.wrap (IntKind.i64.wrap (IntKind.i64.wrap (Head.size p.1 p.2 + sizeL (opF f) n) + (4 : Int)) - (1 : Int))).tdiv (4 : Int)) then (255 : Int) else IntKind.i64.wrap ((IntKind.i64.wrap (IntKind.i64.wrap (IntKind.i64.wrap (Head.size p.1 p.2 + sizeL (opF f) n) + (4 : Int)) - (1 : Int))).tdiv (4 : Int))), Value.int IntKind.i64 p.5, Value.int IntKind.i64 p.6, Value.int IntKind.i64 0, Value.int IntKind.i64 p.1, Value.bool p.2, Value.int IntKind.i64 p.7]))) := by kernel_rfl
end Go.Proofs.Ytodfcalaggfldaa
namespace Go.Proofs.Ytodfcalaggfldaa
set_option linter.unusedVariables false
set_option linter.unusedSimpArgs false
open Go.RowKit Sym Go.ChangeShapes Go.WideShapes Go.ChangeMaps Inet

theorem mk_nil_iff (s : ByteArray) : (s = ByteArray.mk (Array.mk [])) = (s.size = 0) := propext (ba_empty s)
theorem packet_numbered (p : Pk) (n : Nat) (f : Nat → Nat → Value) (o : Value) (w : World) (hv : ∀ B, BlkSat B w o (.row n 2 f)) : Calls Try.prog 56 #[p.v o] w fun e w' => e = .returned (.bool (numP p)) ∧ Below w.heap.size w w' := by
  refine calls_runO CP0_ok follows Try.func56 (by kernel_rfl) (by kernel_rfl) (noloops (by kernel_rfl)) (pnum_run p n f) ?_ (mem_row (hv [o])) rfl
  unfold numP Head.most
  simp only [T.ok, Value.bool.injEq]
  generalize Head.acks p.kind = a
  generalize served p.kind = s
  generalize decide (p.kind = 7) = k
  generalize wn p.service 4294967296 = x
  generalize wn p.code 256 = y
  generalize wn p.detail 16777216 = z
  generalize p.long = l
  have e : wn p.ack (if l = true then 281474976710656 else 16777216) = bif l then wn p.ack 281474976710656 else wn p.ack 16777216 := by cases l <;> rfl
  rw [e]
  generalize wn p.ack 16777216 = b
  generalize wn p.ack 281474976710656 = c
  clear e
  cases a <;> cases s <;> cases k <;> cases l <;> (simp only [Bool.not_true, Bool.not_false, Bool.false_eq_true, Bool.true_eq_false, false_implies, true_implies, and_true, true_and, cond_true, cond_false]; revert x y z b c; decide)
theorem packet_spare (p : Pk) (n : Nat) (f : Nat → Nat → Value) (o : Value) (w : World) (hv : ∀ B, BlkSat B w o (.row n 2 f)) : Calls Try.prog 58 #[p.v o] w fun e w' => e = .returned (.bool (spareP p)) ∧ Below w.heap.size w w' := by
  refine calls_runO CP0_ok follows Try.func58 (by kernel_rfl) (by kernel_rfl) (noloops (by kernel_rfl)) (pspare_run p n f) ?_ (mem_row (hv [o])) rfl
  unfold spareP
  simp only [mk_nil_iff, T.ok, Value.bool.injEq]
  generalize Head.acks p.kind = a
  generalize Head.bears p.kind = b
  generalize served p.kind = s
  generalize decide (p.kind = 7) = k
  generalize decide (p.ack = 0) = x
  generalize decide (p.service = 0) = y
  generalize decide (p.code = 0) = z
  generalize decide (p.detail = 0) = u
  generalize decide (p.data.size = 0) = v
  cases a <;> cases b <;> cases s <;> cases k <;> (simp only [Bool.not_true, Bool.not_false, Bool.false_eq_true, Bool.true_eq_false, false_implies, true_implies, and_true, true_and]; revert x y z u v; decide)
theorem ref10_spare (p : Pk) (h0 : 0 ≤ p.kind) (n : Nat) (f : Nat → Nat → Value) (o : Value) (w : World) (hv : ∀ B, BlkSat B w o (.row n 2 f)) : Calls Try.prog 65 #[p.v o] w fun e w' => e = .returned (.bool (spareP p)) ∧ Below w.heap.size w w' := by
  refine calls_runO CP0_ok follows Try.func65 (by kernel_rfl) (by kernel_rfl) (noloops (by kernel_rfl)) (pspareR_run p n f) ?_ (mem_row (hv [o])) rfl
  have e : served p.kind = !decide (p.kind > 1) := by
    unfold served
    by_cases h : p.kind > 1
    · simp [h]; omega
    · simp [h]; omega
  unfold spareP
  rw [e]
  simp only [mk_nil_iff, T.ok, Value.bool.injEq]
  generalize Head.acks p.kind = a
  generalize Head.bears p.kind = b
  generalize decide (p.kind > 1) = s
  generalize decide (p.kind = 7) = k
  generalize decide (p.ack = 0) = x
  generalize decide (p.service = 0) = y
  generalize decide (p.code = 0) = z
  generalize decide (p.detail = 0) = u
  generalize decide (p.data.size = 0) = v
  cases a <;> cases b <;> cases s <;> cases k <;> (simp only [Bool.not_true, Bool.not_false, Bool.false_eq_true, Bool.true_eq_false, false_implies, true_implies, and_true, true_and]; revert x y z u v; decide)
theorem packet_beginning (p : Pk) (n : Nat) (f : Nat → Nat → Value) (ho : OpP n f) (o : Value) (w : World) (hv : ∀ B, BlkSat B w o (.row n 2 f)) : Calls Try.prog 47 #[p.v o] w fun e w' => e = .returned (begH p n (opF f) 0).v ∧ Below w.heap.size w w' := by
  refine calls_runO CP0_ok follows Try.func47 (by kernel_rfl) (by kernel_rfl) (noloops (by kernel_rfl)) (pbegin_run p n f) ?_ (mem_row (hv [o])) rfl
  refine ⟨ho, ?_⟩
  obtain ⟨-, f1, f2⟩ := ho
  have hb := sizeL_bd (opF f) n (fun j hj => f2 j hj)
  have hs : 0 ≤ Head.size p.kind p.long ∧ Head.size p.kind p.long ≤ 100 := by unfold Head.size; split <;> (try split) <;> (try split) <;> (try split) <;> omega
  have e1 : IntKind.i64.wrap (Head.size p.kind p.long + sizeL (opF f) n) = Head.size p.kind p.long + sizeL (opF f) n := w64 _ (by omega) (by omega)
  have e2 : IntKind.i64.wrap (Head.size p.kind p.long + sizeL (opF f) n + 4) = Head.size p.kind p.long + sizeL (opF f) n + 4 := w64 _ (by omega) (by omega)
  have e3 : IntKind.i64.wrap (Head.size p.kind p.long + sizeL (opF f) n + 4 - 1) = Head.size p.kind p.long + sizeL (opF f) n + 3 := by rw [w64 _ (by omega) (by omega)]; omega
  have e4 : (Head.size p.kind p.long + sizeL (opF f) n + 3).tdiv 4 = (Head.size p.kind p.long + sizeL (opF f) n + 3) / 4 := Int.tdiv_eq_ediv_of_nonneg (by omega)
  have e5 : IntKind.i64.wrap ((Head.size p.kind p.long + sizeL (opF f) n + 3) / 4) = (Head.size p.kind p.long + sizeL (opF f) n + 3) / 4 := w64 _ (by omega) (by omega)
  rw [e1, e2, e3, e4, e5]
  have e6 : (if (255 : Int) < (Head.size p.kind p.long + sizeL (opF f) n + 3) / 4 then (255 : Int) else (Head.size p.kind p.long + sizeL (opF f) n + 3) / 4) = wordsP p n (opF f) := by
    unfold wordsP; split <;> omega
  rw [e6]
  rfl
end Go.Proofs.Ytodfcalaggfldaa
namespace Go.Proofs.Ytodfcalaggfldaa
set_option linter.unusedVariables false
set_option linter.unusedSimpArgs false
open Go.RowKit Sym Go.ChangeShapes Go.WideShapes Go.ChangeMaps Inet

set_option maxRecDepth 100000 in
theorem rbegin_run (p : Pk) (n : Nat) (f : Nat → Nat → Value) : runO Try.prog (CP0 Try.prog) (LUn Try.prog (onlyS Try.prog noS) Try.f60 5) Try.f60 [p.s (.ref 0)] [.row n 2 f] = .need (OpP n f) (.ite (!decide ((IntKind.i64.wrap (Head.size p.1 p.2 + sizeL (opF f) n)).tmod (4 : Int) = (0 : Int))) (.ite (!decide ((IntKind.i64.wrap (IntKind.i64.wrap (Head.size p.1 p.2 + sizeL (opF f) n) + (1 : Int))).tmod (4 : Int) = (0 : Int))) (.ite (!decide ((IntKind.i64.wrap (IntKind.i64.wrap (IntKind.i64.wrap (Head.size p.1 p.2 + sizeL (opF f) n) + (1 : Int)) + (1 : Int))).tmod (4 : Int) = (0 : Int))) (.ite (!decide ((IntKind.i64.wrap (IntKind.i64.wrap (IntKind.i64.wrap (IntKind.i64.wrap (Head.size p.1 p.2 + sizeL (opF f) n) + (1 : Int)) + (1 : Int)) + (1 : Int))).tmod (4 : Int) = (0 : Int))) (.ite (!decide ((IntKind.i64.wrap (IntKind.i64.wrap (IntKind.i64.wrap (IntKind.i64.wrap (IntKind.i64.wrap (Head.size p.1 p.2 + sizeL (opF f) n) + (1 : Int)) + (1 : Int)) + (1 : Int)) + (1 : Int))).tmod (4 : Int) = (0 : Int))) (T.stuck 38) (.leaf (Value.agg (Array.mk [Value.int IntKind.i64 p.3, Value.int IntKind.i64 p.4, Value.int IntKind.i64 (if (255 : Int) < IntKind.i64.wrap ((IntKind.i64.wrap (IntKind.i64.wrap (IntKind.i64.wrap (IntKind.i64.wrap (IntKind.i64.wrap (Head.size p.1 p.2 + sizeL (opF f) n) + (1 : Int)) + (1 : Int)) + (1 : Int)) + (1 : Int))).tdiv (4 : Int)) then (255 : Int) else IntKind.i64.wrap ((IntKind.i64.wrap (IntKind.i64.wrap (IntKind.i64.wrap (IntKind.i64.wrap (IntKind.i64.wrap (Head.size p.1 p.2 + sizeL (opF f) n) + (1 : Int)) + (1 : Int)) + (1 : Int)) + (1 : Int))).tdiv (4 : Int))), Value.int IntKind.i64 p.5, Value.int IntKind.i64 p.6, Value.int IntKind.i64 0, Value.int IntKind.i64 p.1, Value.bool p.2, Value.int IntKind.i64 p.7])))) (.leaf (Value.agg (Array.mk [Value.int IntKind.i64 p.3, Value.int IntKind.i64 p.4, Value.int IntKind.i64 (if (255 : Int) < IntKind.i64.wrap ((IntKind.i64.wrap (IntKind.i64.wrap (IntKind.i64.wrap (IntKind.i64.wrap (Head.size p.1 p.2 + sizeL (opF f) n) + (1 : Int)) + (1 : Int)) + (1 : Int))).tdiv (4 : Int)) then (255 : Int) else IntKind.i64.wrap ((IntKind.i64.wrap (IntKind.i64.wrap (IntKind.i64.wrap (IntKind.i64.wrap (Head.size p.1 p.2 + sizeL (opF f) n) + (1 : Int)) + (1 : Int)) + (1 : Int))).tdiv (4 : Int))), Value.int IntKind.i64 p.5, Value.int IntKind.i64 p.6, Value.int IntKind.i64 0, Value.int IntKind.i64 p.1, Value.bool p.2, Value.int IntKind.i64 p.7])))) (.leaf (Value.agg (Array.mk [Value.int IntKind.i64 p.3, Value.int IntKind.i64 p.4, Value.int IntKind.i64 (if (255 : Int) < IntKind.i64.wrap ((IntKind.i64.wrap (IntKind.i64.wrap (IntKind.i64.wrap (Head.size p.1 p.2 + sizeL (opF f) n) + (1 : Int)) + (1 : Int))).tdiv (4 : Int)) then (255 : Int) else IntKind.i64.wrap ((IntKind.i64.wrap (IntKind.i64.wrap (IntKind.i64.wrap (Head.size p.1 p.2 + sizeL (opF f) n) + (1 : Int)) + (1 : Int))).tdiv (4 : Int))), Value.int IntKind.i64 p.5, Value.int IntKind.i64 p.6, Value.int IntKind.i64 0, Value.int IntKind.i64 p.1, Value.bool p.2, Value.int IntKind.i64 p.7])))) (.leaf (Value.agg (Array.mk [Value.int IntKind.i64 p.3, Value.int IntKind.i64 p.4, Value.int IntKind.i64 (if (255 : Int) < IntKind.i64.wrap ((IntKind.i64.wrap (IntKind.i64.wrap (Head.size p.1 p.2 + sizeL (opF f) n) + (1 : Int))).tdiv (4 : Int)) then (255 : Int) else IntKind.i64.wrap ((IntKind.i64.wrap (IntKind.i64.wrap (Head.size p.1 p.2 + sizeL (opF f) n) + (1 : Int))).tdiv (4 : Int))), Value.int IntKind.i64 p.5, Value.int IntKind.i64 p.6, Value.int IntKind.i64 0, Value.int IntKind.i64 p.1, Value.bool p.2, Value.int IntKind.i64 p.7])))) (.leaf (Value.agg (Array.mk [Value.int IntKind.i64 p.3, Value.int IntKind.i64 p.4, Value.int IntKind.i64 (if (255 : Int) < IntKind.i64.wrap ((IntKind.i64.wrap (Head.size p.1 p.2 + sizeL (opF f) n)).tdiv (4 : Int)) then (255 : Int) else IntKind.i64.wrap ((IntKind.i64.wrap (Head.size p.1 p.2 + sizeL (opF f) n)).tdiv (4 : Int))), Value.int IntKind.i64 p.5, Value.int IntKind.i64 p.6, Value.int IntKind.i64 0, Value.int IntKind.i64 p.1, Value.bool p.2, Value.int IntKind.i64 p.7])))) := by kernel_rfl
theorem ref10_begin (p : Pk) (n : Nat) (f : Nat → Nat → Value) (ho : OpP n f) (o : Value) (w : World) (hv : ∀ B, BlkSat B w o (.row n 2 f)) : Calls Try.prog 60 #[p.v o] w fun e w' => e = .returned (begH p n (opF f) 0).v ∧ Below w.heap.size w w' := by
  refine calls_runO CP0_ok follows Try.func60 (by kernel_rfl) (by kernel_rfl) (one_loop (by kernel_rfl) fun st t h => by
    rw [addL_same h]; exact unroll_ok (onlyS_ok noS_ok) follows (by kernel_rfl) (noloops (by kernel_rfl)) 5 st) (rbegin_run p n f) ?_ (mem_row (hv [o])) rfl
  refine ⟨ho, ?_⟩
  obtain ⟨-, f1, f2⟩ := ho
  have hb := sizeL_bd (opF f) n (fun j hj => f2 j hj)
  have hs : 0 ≤ Head.size p.kind p.long ∧ Head.size p.kind p.long ≤ 100 := by unfold Head.size; split <;> (try split) <;> (try split) <;> (try split) <;> omega
  have fin : ∀ k : Int, (if (255 : Int) < k then (255 : Int) else k) = min k 255 := fun k => by split <;> omega
  have ew : wordsP p n (opF f) = min ((Head.size p.kind p.long + sizeL (opF f) n + 3) / 4) 255 := rfl
  unfold begH
  rw [ew]
  have ht : 0 ≤ Head.size p.kind p.long + sizeL (opF f) n ∧ Head.size p.kind p.long + sizeL (opF f) n ≤ 2000000000 := by omega
  generalize Head.size p.kind p.long + sizeL (opF f) n = t at *
  have w0 : IntKind.i64.wrap t = t := w64 _ (by omega) (by omega)
  have w1 : IntKind.i64.wrap (t + 1) = t + 1 := w64 _ (by omega) (by omega)
  have w2 : IntKind.i64.wrap (t + 1 + 1) = t + 1 + 1 := w64 _ (by omega) (by omega)
  have w3 : IntKind.i64.wrap (t + 1 + 1 + 1) = t + 1 + 1 + 1 := w64 _ (by omega) (by omega)
  have w4 : IntKind.i64.wrap (t + 1 + 1 + 1 + 1) = t + 1 + 1 + 1 + 1 := w64 _ (by omega) (by omega)
  simp only [w0, w1, w2, w3, w4]
  have md : ∀ x : Int, 0 ≤ x → x.tmod 4 = x % 4 := fun x hx => Int.tmod_eq_emod_of_nonneg hx
  have dv : ∀ x : Int, 0 ≤ x → x ≤ 3000000000 → IntKind.i64.wrap (x.tdiv 4) = x / 4 := fun x hx h2 => by rw [Int.tdiv_eq_ediv_of_nonneg hx, w64 _ (by omega) (by omega)]
  simp only [md t (by omega), md (t + 1) (by omega), md (t + 1 + 1) (by omega), md (t + 1 + 1 + 1) (by omega), md (t + 1 + 1 + 1 + 1) (by omega), dv t (by omega) (by omega), dv (t + 1) (by omega) (by omega), dv (t + 1 + 1) (by omega) (by omega), dv (t + 1 + 1 + 1) (by omega) (by omega), dv (t + 1 + 1 + 1 + 1) (by omega) (by omega), fin]
  have h4 : t % 4 = 0 ∨ t % 4 = 1 ∨ t % 4 = 2 ∨ t % 4 = 3 := by omega
  rcases h4 with h | h | h | h
  · have e : min (t / 4) 255 = min ((t + 3) / 4) 255 := by omega
    simp [T.ok, h, e]
  · have a1 : (t + 1) % 4 = 2 := by omega
    have a2 : (t + 1 + 1) % 4 = 3 := by omega
    have a3 : (t + 1 + 1 + 1) % 4 = 0 := by omega
    have e : (t + 1 + 1 + 1) / 4 = (t + 3) / 4 := by omega
    simp [T.ok, h, a1, a2, a3, e]
  · have a1 : (t + 1) % 4 = 3 := by omega
    have a2 : (t + 1 + 1) % 4 = 0 := by omega
    have e : (t + 1 + 1) / 4 = (t + 3) / 4 := by omega
    simp [T.ok, h, a1, a2, e]
  · have a1 : (t + 1) % 4 = 0 := by omega
    have e : (t + 1) / 4 = (t + 3) / 4 := by omega
    simp [T.ok, h, a1, e]
def begP (p : Pk) (n : Nat) (f : Nat → Nat → Value) : Value := .agg #[.int .i64 p.src, .int .i64 p.dst, .int .i64 (wordsP p n (opF f)), .int .i64 p.ccval, .int .i64 p.cover, .int .i64 0, .int .i64 p.kind, .bool p.long, .int .i64 p.seq]
def KindP (p : Pk) : Prop := 0 ≤ p.kind
def FPk1 : LTab := addR 47 (rdP (fun _ n f => OpP n f) begP) <| addR 60 (rdP (fun _ n f => OpP n f) begP) <| addR 56 (rdP (fun _ _ _ => True) fun p _ _ => .bool (numP p)) <| addR 58 (rdP (fun _ _ _ => True) fun p _ _ => .bool (spareP p)) <| addR 65 (rdP (fun p _ _ => KindP p) fun p _ _ => .bool (spareP p)) FOpt2
theorem FPk1_ok : LOk Try.prog FPk1 :=
  addR_ok (addR_ok (addR_ok (addR_ok (addR_ok FOpt2_ok
    (by kernel_rfl) (rdP_ok fun p n fr o w hv hp => ref10_spare p hp n fr o w hv))
    (by kernel_rfl) (rdP_ok fun p n fr o w hv _ => packet_spare p n fr o w hv))
    (by kernel_rfl) (rdP_ok fun p n fr o w hv _ => packet_numbered p n fr o w hv))
    (by kernel_rfl) (rdP_ok fun p n fr o w hv hp => ref10_begin p n fr hp o w hv))
    (by kernel_rfl) (rdP_ok fun p n fr o w hv hp => packet_beginning p n fr hp o w hv)
abbrev fsPk1 : List Nat := 47 :: 60 :: 56 :: 58 :: 65 :: fsOpt
abbrev CP1 (P : Program) : Cfg := both P SPk0 FPk1 fsPk1
theorem CP1_ok : CfgOk Try.prog (CP1 Try.prog) := both_ok SPk0_ok FPk1_ok
set_option maxRecDepth 100000 in
theorem pcheck_run (p : Pk) (n : Nat) (f : Nat → Nat → Value) : runO Try.prog (CP1 Try.prog) noL Try.f21 [p.s (.ref 0)] [.row n 2 f] = .need (OpP n ((Pk.mk p.kind p.long p.src p.dst p.ccval p.cover p.seq p.ack p.service p.code p.detail p.data, openS (SV.ref 0)).fst, (n, f).fst, (n, f).snd).snd.snd) (.ite (!decide (Head.check (Head.H.mk p.3 p.4 (wordsP p n (opF ((Pk.mk p.kind p.long p.src p.dst p.ccval p.cover p.seq p.ack p.service p.code p.detail p.data, openS (SV.ref 0)).fst, (n, f).fst, (n, f).snd).snd.snd)) p.5 p.6 (0 : Int) p.1 p.2 p.7) = (0 : Int))) (.leaf (Value.int IntKind.i64 (Head.check (Head.H.mk p.3 p.4 (wordsP p n (opF ((Pk.mk p.kind p.long p.src p.dst p.ccval p.cover p.seq p.ack p.service p.code p.detail p.data, openS (SV.ref 0)).fst, (n, f).fst, (n, f).snd).snd.snd)) p.5 p.6 (0 : Int) p.1 p.2 p.7)))) (.need True (.ite (!numP p) (.leaf (Value.int IntKind.i64 3)) (.need (OpP n f) (.ite (!decide (chkO n (opF f) = (0 : Int))) (.leaf (Value.int IntKind.i64 (chkO n (opF f)))) (.need ((ByteArray.mk #[]).size ≤ 1000000 ∧ p.data.size ≤ 1000000) (.ite (decide ((↑p.12.size : Int) > (200 : Int))) (.leaf (Value.int IntKind.i64 11)) (.need True (.ite (spareP p) (.leaf (Value.int IntKind.i64 4)) (.ite (!covOk p.12 p.6) (.leaf (Value.int IntKind.i64 3)) (.leaf (Value.int IntKind.i64 0)))))))))))) := by kernel_rfl
set_option maxRecDepth 100000 in
theorem rcheck_run (p : Pk) (n : Nat) (f : Nat → Nat → Value) : runO Try.prog (CP1 Try.prog) noL Try.f22 [p.s (.ref 0)] [.row n 2 f] = .need (OpP n ((Pk.mk p.kind p.long p.src p.dst p.ccval p.cover p.seq p.ack p.service p.code p.detail p.data, openS (SV.ref 0)).fst, (n, f).fst, (n, f).snd).snd.snd) (.ite (!decide (Head.check (Head.H.mk p.3 p.4 (wordsP p n (opF ((Pk.mk p.kind p.long p.src p.dst p.ccval p.cover p.seq p.ack p.service p.code p.detail p.data, openS (SV.ref 0)).fst, (n, f).fst, (n, f).snd).snd.snd)) p.5 p.6 (0 : Int) p.1 p.2 p.7) = (0 : Int))) (.leaf (Value.int IntKind.i64 (Head.check (Head.H.mk p.3 p.4 (wordsP p n (opF ((Pk.mk p.kind p.long p.src p.dst p.ccval p.cover p.seq p.ack p.service p.code p.detail p.data, openS (SV.ref 0)).fst, (n, f).fst, (n, f).snd).snd.snd)) p.5 p.6 (0 : Int) p.1 p.2 p.7)))) (.ite (Head.acks p.1) (.ite p.2 (.ite (!wn p.8 (281474976710656 : Int)) (.leaf (Value.int IntKind.i64 3)) (.ite (!p.2) (.ite (!wn p.8 (16777216 : Int)) (.leaf (Value.int IntKind.i64 3)) (.ite (decide (p.1 < (2 : Int))) (.ite (!wn p.9 (4294967296 : Int)) (.leaf (Value.int IntKind.i64 3)) (.ite (decide (p.1 = (7 : Int))) (.ite (!wn p.10 (256 : Int)) (.leaf (Value.int IntKind.i64 3)) (.ite (!wn p.11 (16777216 : Int)) (.leaf (Value.int IntKind.i64 3)) (.need (OpP n f) (.ite (!decide (chkO n (opF f) = (0 : Int))) (.leaf (Value.int IntKind.i64 (chkO n (opF f)))) (.need ((ByteArray.mk #[]).size ≤ 1000000 ∧ p.data.size ≤ 1000000) (.ite (decide ((↑p.12.size : Int) > (200 : Int))) (.leaf (Value.int IntKind.i64 11)) (.need (KindP p) (.ite (spareP p) (.leaf (Value.int IntKind.i64 4)) (.ite (!covOk p.12 p.6) (.leaf (Value.int IntKind.i64 3)) (.leaf (Value.int IntKind.i64 0))))))))))) (.need (OpP n f) (.ite (!decide (chkO n (opF f) = (0 : Int))) (.leaf (Value.int IntKind.i64 (chkO n (opF f)))) (.need ((ByteArray.mk #[]).size ≤ 1000000 ∧ p.data.size ≤ 1000000) (.ite (decide ((↑p.12.size : Int) > (200 : Int))) (.leaf (Value.int IntKind.i64 11)) (.need (KindP p) (.ite (spareP p) (.leaf (Value.int IntKind.i64 4)) (.ite (!covOk p.12 p.6) (.leaf (Value.int IntKind.i64 3)) (.leaf (Value.int IntKind.i64 0))))))))))) (.ite (decide (p.1 = (7 : Int))) (.ite (!wn p.10 (256 : Int)) (.leaf (Value.int IntKind.i64 3)) (.ite (!wn p.11 (16777216 : Int)) (.leaf (Value.int IntKind.i64 3)) (.need (OpP n f) (.ite (!decide (chkO n (opF f) = (0 : Int))) (.leaf (Value.int IntKind.i64 (chkO n (opF f)))) (.need ((ByteArray.mk #[]).size ≤ 1000000 ∧ p.data.size ≤ 1000000) (.ite (decide ((↑p.12.size : Int) > (200 : Int))) (.leaf (Value.int IntKind.i64 11)) (.need (KindP p) (.ite (spareP p) (.leaf (Value.int IntKind.i64 4)) (.ite (!covOk p.12 p.6) (.leaf (Value.int IntKind.i64 3)) (.leaf (Value.int IntKind.i64 0))))))))))) (.need (OpP n f) (.ite (!decide (chkO n (opF f) = (0 : Int))) (.leaf (Value.int IntKind.i64 (chkO n (opF f)))) (.need ((ByteArray.mk #[]).size ≤ 1000000 ∧ p.data.size ≤ 1000000) (.ite (decide ((↑p.12.size : Int) > (200 : Int))) (.leaf (Value.int IntKind.i64 11)) (.need (KindP p) (.ite (spareP p) (.leaf (Value.int IntKind.i64 4)) (.ite (!covOk p.12 p.6) (.leaf (Value.int IntKind.i64 3)) (.leaf (Value.int IntKind.i64 0)))))))))))) (.ite (decide (p.1 < (2 : Int))) (.ite (!wn p.9 (4294967296 : Int)) (.leaf (Value.int IntKind.i64 3)) (.ite (decide (p.1 = (7 : Int))) (.ite (!wn p.10 (256 : Int)) (.leaf (Value.int IntKind.i64 3)) (.ite (!wn p.11 (16777216 : Int)) (.leaf (Value.int IntKind.i64 3)) (.need (OpP n f) (.ite (!decide (chkO n (opF f) = (0 : Int))) (.leaf (Value.int IntKind.i64 (chkO n (opF f)))) (.need ((ByteArray.mk #[]).size ≤ 1000000 ∧ p.data.size ≤ 1000000) (.ite (decide ((↑p.12.size : Int) > (200 : Int))) (.leaf (Value.int IntKind.i64 11)) (.need (KindP p) (.ite (spareP p) (.leaf (Value.int IntKind.i64 4)) (.ite (!covOk p.12 p.6) (.leaf (Value.int IntKind.i64 3)) (.leaf (Value.int IntKind.i64 0))))))))))) (.need (OpP n f) (.ite (!decide (chkO n (opF f) = (0 : Int))) (.leaf (Value.int IntKind.i64 (chkO n (opF f)))) (.need ((ByteArray.mk #[]).size ≤ 1000000 ∧ p.data.size ≤ 1000000) (.ite (decide ((↑p.12.size : Int) > (200 : Int))) (.leaf (Value.int IntKind.i64 11)) (.need (KindP p) (.ite (spareP p) (.leaf (Value.int IntKind.i64 4)) (.ite (!covOk p.12 p.6) (.leaf (Value.int IntKind.i64 3)) (.leaf (Value.int IntKind.i64 0))))))))))) (.ite (decide (p.1 = (7 : Int))) (.ite (!wn p.10 (256 : Int)) (.leaf (Value.int IntKind.i64 3)) (.ite (!wn p.11 (16777216 : Int)) (.leaf (Value.int IntKind.i64 3)) (.need (OpP n f) (.ite (!decide (chkO n (opF f) = (0 : Int))) (.leaf (Value.int IntKind.i64 (chkO n (opF f)))) (.need ((ByteArray.mk #[]).size ≤ 1000000 ∧ p.data.size ≤ 1000000) (.ite (decide ((↑p.12.size : Int) > (200 : Int))) (.leaf (Value.int IntKind.i64 11)) (.need (KindP p) (.ite (spareP p) (.leaf (Value.int IntKind.i64 4)) (.ite (!covOk p.12 p.6) (.leaf (Value.int IntKind.i64 3)) (.leaf (Value.int IntKind.i64 0))))))))))) (.need (OpP n f) (.ite (!decide (chkO n (opF f) = (0 : Int))) (.leaf (Value.int IntKind.i64 (chkO n (opF f)))) (.need ((ByteArray.mk #[]).size ≤ 1000000 ∧ p.data.size ≤ 1000000) (.ite (decide ((↑p.12.size : Int) > (200 : Int))) (.leaf (Value.int IntKind.i64 11)) (.need (KindP p) (.ite (spareP p) (.leaf (Value.int IntKind.i64 4)) (.ite (!covOk p.12 p.6) (.leaf (Value.int IntKind.i64 3)) (.leaf (Value.int IntKind.i64 0))))))))))))) (.ite (!p.2) (.ite (!wn p.8 (16777216 : Int)) (.leaf (Value.int IntKind.i64 3)) (.ite (decide (p.1 < (2 : Int))) (.ite (!wn p.9 (4294967296 : Int)) (.leaf (Value.int IntKind.i64 3)) (.ite (decide (p.1 = (7 : Int))) (.ite (!wn p.10 (256 : Int)) (.leaf (Value.int IntKind.i64 3)) (.ite (!wn p.11 (16777216 : Int)) (.leaf (Value.int IntKind.i64 3)) (.need (OpP n f) (.ite (!decide (chkO n (opF f) = (0 : Int))) (.leaf (Value.int IntKind.i64 (chkO n (opF f)))) (.need ((ByteArray.mk #[]).size ≤ 1000000 ∧ p.data.size ≤ 1000000) (.ite (decide ((↑p.12.size : Int) > (200 : Int))) (.leaf (Value.int IntKind.i64 11)) (.need (KindP p) (.ite (spareP p) (.leaf (Value.int IntKind.i64 4)) (.ite (!covOk p.12 p.6) (.leaf (Value.int IntKind.i64 3)) (.leaf (Value.int IntKind.i64 0))))))))))) (.need (OpP n f) (.ite (!decide (chkO n (opF f) = (0 : Int))) (.leaf (Value.int IntKind.i64 (chkO n (opF f)))) (.need ((ByteArray.mk #[]).size ≤ 1000000 ∧ p.data.size ≤ 1000000) (.ite (decide ((↑p.12.size : Int) > (200 : Int))) (.leaf (Value.int IntKind.i64 11)) (.need (KindP p) (.ite (spareP p) (.leaf (Value.int IntKind.i64 4)) (.ite (!covOk p.12 p.6) (.leaf (Value.int IntKind.i64 3)) (.leaf (Value.int IntKind.i64 0))))))))))) (.ite (decide (p.1 = (7 : Int))) (.ite (!wn p.10 (256 : Int)) (.leaf (Value.int IntKind.i64 3)) (.ite (!wn p.11 (16777216 : Int)) (.leaf (Value.int IntKind.i64 3)) (.need (OpP n f) (.ite (!decide (chkO n (opF f) = (0 : Int))) (.leaf (Value.int IntKind.i64 (chkO n (opF f)))) (.need ((ByteArray.mk #[]).size ≤ 1000000 ∧ p.data.size ≤ 1000000) (.ite (decide ((↑p.12.size : Int) > (200 : Int))) (.leaf (Value.int IntKind.i64 11)) (.need (KindP p) (.ite (spareP p) (.leaf (Value.int IntKind.i64 4)) (.ite (!covOk p.12 p.6) (.leaf (Value.int IntKind.i64 3)) (.leaf (Value.int IntKind.i64 0))))))))))) (.need (OpP n f) (.ite (!decide (chkO n (opF f) = (0 : Int))) (.leaf (Value.int IntKind.i64 (chkO n (opF f)))) (.need ((ByteArray.mk #[]).size ≤ 1000000 ∧ p.data.size ≤ 1000000) (.ite (decide ((↑p.12.size : Int) > (200 : Int))) (.leaf (Value.int IntKind.i64 11)) (.need (KindP p) (.ite (spareP p) (.leaf (Value.int IntKind.i64 4)) (.ite (!covOk p.12 p.6) (.leaf (Value.int IntKind.i64 3)) (.leaf (Value.int IntKind.i64 0)))))))))))) (.ite (decide (p.1 < (2 : Int))) (.ite (!wn p.9 (4294967296 : Int)) (.leaf (Value.int IntKind.i64 3)) (.ite (decide (p.1 = (7 : Int))) (.ite (!wn p.10 (256 : Int)) (.leaf (Value.int IntKind.i64 3)) (.ite (!wn p.11 (16777216 : Int)) (.leaf (Value.int IntKind.i64 3)) (.need (OpP n f) (.ite (!decide (chkO n (opF f) = (0 : Int))) (.leaf (Value.int IntKind.i64 (chkO n (opF f)))) (.need ((ByteArray.mk #[]).size ≤ 1000000 ∧ p.data.size ≤ 1000000) (.ite (decide ((↑p.12.size : Int) > (200 : Int))) (.leaf (Value.int IntKind.i64 11)) (.need (KindP p) (.ite (spareP p) (.leaf (Value.int IntKind.i64 4)) (.ite (!covOk p.12 p.6) (.leaf (Value.int IntKind.i64 3)) (.leaf (Value.int IntKind.i64 0))))))))))) (.need (OpP n f) (.ite (!decide (chkO n (opF f) = (0 : Int))) (.leaf (Value.int IntKind.i64 (chkO n (opF f)))) (.need ((ByteArray.mk #[]).size ≤ 1000000 ∧ p.data.size ≤ 1000000) (.ite (decide ((↑p.12.size : Int) > (200 : Int))) (.leaf (Value.int IntKind.i64 11)) (.need (KindP p) (.ite (spareP p) (.leaf (Value.int IntKind.i64 4)) (.ite (!covOk p.12 p.6) (.leaf (Value.int IntKind.i64 3)) (.leaf (Value.int IntKind.i64 0))))))))))) (.ite (decide (p.1 = (7 : Int))) (.ite (!wn p.10 (256 : Int)) (.leaf (Value.int IntKind.i64 3)) (.ite (!wn p.11 (16777216 : Int)) (.leaf (Value.int IntKind.i64 3)) (.need (OpP n f) (.ite (!decide (chkO n (opF f) = (0 : Int))) (.leaf (Value.int IntKind.i64 (chkO n (opF f)))) (.need ((ByteArray.mk #[]).size ≤ 1000000 ∧ p.data.size ≤ 1000000) (.ite (decide ((↑p.12.size : Int) > (200 : Int))) (.leaf (Value.int IntKind.i64 11)) (.need (KindP p) (.ite (spareP p) (.leaf (Value.int IntKind.i64 4)) (.ite (!covOk p.12 p.6) (.leaf (Value.int IntKind.i64 3)) (.leaf (Value.int IntKind.i64 0))))))))))) (.need (OpP n f) (.ite (!decide (chkO n (opF f) = (0 : Int))) (.leaf (Value.int IntKind.i64 (chkO n (opF f)))) (.need ((ByteArray.mk #[]).size ≤ 1000000 ∧ p.data.size ≤ 1000000) (.ite (decide ((↑p.12.size : Int) > (200 : Int))) (.leaf (Value.int IntKind.i64 11)) (.need (KindP p) (.ite (spareP p) (.leaf (Value.int IntKind.i64 4)) (.ite (!covOk p.12 p.6) (.leaf (Value.int IntKind.i64 3)) (.leaf (Value.int IntKind.i64 0))))))))))))) (.ite (decide (p.1 < (2 : Int))) (.ite (!wn p.9 (4294967296 : Int)) (.leaf (Value.int IntKind.i64 3)) (.ite (decide (p.1 = (7 : Int))) (.ite (!wn p.10 (256 : Int)) (.leaf (Value.int IntKind.i64 3)) (.ite (!wn p.11 (16777216 : Int)) (.leaf (Value.int IntKind.i64 3)) (.need (OpP n f) (.ite (!decide (chkO n (opF f) = (0 : Int))) (.leaf (Value.int IntKind.i64 (chkO n (opF f)))) (.need ((ByteArray.mk #[]).size ≤ 1000000 ∧ p.data.size ≤ 1000000) (.ite (decide ((↑p.12.size : Int) > (200 : Int))) (.leaf (Value.int IntKind.i64 11)) (.need (KindP p) (.ite (spareP p) (.leaf (Value.int IntKind.i64 4)) (.ite (!covOk p.12 p.6) (.leaf (Value.int IntKind.i64 3)) (.leaf (Value.int IntKind.i64 0))))))))))) (.need (OpP n f) (.ite (!decide (chkO n (opF f) = (0 : Int))) (.leaf (Value.int IntKind.i64 (chkO n (opF f)))) (.need ((ByteArray.mk #[]).size ≤ 1000000 ∧ p.data.size ≤ 1000000) (.ite (decide ((↑p.12.size : Int) > (200 : Int))) (.leaf (Value.int IntKind.i64 11)) (.need (KindP p) (.ite (spareP p) (.leaf (Value.int IntKind.i64 4)) (.ite (!covOk p.12 p.6) (.leaf (Value.int IntKind.i64 3)) (.leaf (Value.int IntKind.i64 0))))))))))) (.ite (decide (p.1 = (7 : Int))) (.ite (!wn p.10 (256 : Int)) (.leaf (Value.int IntKind.i64 3)) (.ite (!wn p.11 (16777216 : Int)) (.leaf (Value.int IntKind.i64 3)) (.need (OpP n f) (.ite (!decide (chkO n (opF f) = (0 : Int))) (.leaf (Value.int IntKind.i64 (chkO n (opF f)))) (.need ((ByteArray.mk #[]).size ≤ 1000000 ∧ p.data.size ≤ 1000000) (.ite (decide ((↑p.12.size : Int) > (200 : Int))) (.leaf (Value.int IntKind.i64 11)) (.need (KindP p) (.ite (spareP p) (.leaf (Value.int IntKind.i64 4)) (.ite (!covOk p.12 p.6) (.leaf (Value.int IntKind.i64 3)) (.leaf (Value.int IntKind.i64 0))))))))))) (.need (OpP n f) (.ite (!decide (chkO n (opF f) = (0 : Int))) (.leaf (Value.int IntKind.i64 (chkO n (opF f)))) (.need ((ByteArray.mk #[]).size ≤ 1000000 ∧ p.data.size ≤ 1000000) (.ite (decide ((↑p.12.size : Int) > (200 : Int))) (.leaf (Value.int IntKind.i64 11)) (.need (KindP p) (.ite (spareP p) (.leaf (Value.int IntKind.i64 4)) (.ite (!covOk p.12 p.6) (.leaf (Value.int IntKind.i64 3)) (.leaf (Value.int IntKind.i64 0))))))))))))) := by kernel_rfl
end Go.Proofs.Ytodfcalaggfldaa
namespace Go.Proofs.Ytodfcalaggfldaa
set_option linter.unusedVariables false
set_option linter.unusedSimpArgs false
open Go.RowKit Sym Go.ChangeShapes Go.WideShapes Go.ChangeMaps Inet

theorem packet_Check (p : Pk) (n : Nat) (f : Nat → Nat → Value) (ho : OpP n f ∧ p.data.size ≤ 1000000) (o : Value) (w : World) (hv : ∀ B, BlkSat B w o (.row n 2 f)) : Calls Try.prog 21 #[p.v o] w fun e w' => e = .returned (.int .i64 (chkP p n (opF f))) ∧ Below w.heap.size w w' := by
  refine calls_runO CP1_ok follows Try.func21 (by kernel_rfl) (by kernel_rfl) (noloops (by kernel_rfl)) (pcheck_run p n f) ?_ (mem_row (hv [o])) rfl
  obtain ⟨h1, h2⟩ := ho
  have z : (ByteArray.mk #[]).size ≤ 1000000 := Nat.zero_le _
  unfold chkP begH
  simp only [T.ok, Bool.not_eq_true', Bool.not_eq_false', decide_eq_true_eq, decide_eq_false_iff_not]
  refine ⟨h1, fun a => ?_, fun a => ⟨trivial, fun b => ?_, fun b => ⟨h1, fun c => ?_, fun c => ⟨⟨z, h2⟩, fun d => ?_, fun d => ⟨trivial, fun e => ?_, fun e => ⟨fun g => ?_, fun g => ?_⟩⟩⟩⟩⟩⟩
  · rw [if_neg a]
  · rw [if_pos a, if_neg (by rw [b]; decide)]
  · rw [if_pos a, if_pos b, if_neg c]
  · rw [if_pos a, if_pos b, if_pos c, if_pos (by omega)]
  · rw [if_pos a, if_pos b, if_pos c, if_neg (by omega), if_pos e]
  · rw [if_pos a, if_pos b, if_pos c, if_neg (by omega), if_neg (by rw [e]; decide), if_neg (by rw [g]; decide)]
  · rw [if_pos a, if_pos b, if_pos c, if_neg (by omega), if_neg (by rw [e]; decide), if_pos g]
theorem ref10_Check (p : Pk) (n : Nat) (f : Nat → Nat → Value) (ho : OpP n f ∧ p.data.size ≤ 1000000) (o : Value) (w : World) (hv : ∀ B, BlkSat B w o (.row n 2 f)) : Calls Try.prog 22 #[p.v o] w fun e w' => e = .returned (.int .i64 (chkP p n (opF f))) ∧ Below w.heap.size w w' := by
  refine calls_runO CP1_ok follows Try.func22 (by kernel_rfl) (by kernel_rfl) (noloops (by kernel_rfl)) (rcheck_run p n f) ?_ (mem_row (hv [o])) rfl
  obtain ⟨h1, h2⟩ := ho
  have z : (ByteArray.mk #[]).size ≤ 1000000 := Nat.zero_le _
  by_cases hc : Head.check (begH p n (opF f) 0) = 0
  · have hc' : Head.check ⟨p.src, p.dst, wordsP p n (opF f), p.ccval, p.cover, 0, p.kind, p.long, p.seq⟩ = 0 := hc
    have hk := (Head.check_ok hc).1
    have hk : 0 ≤ p.kind ∧ p.kind ≤ 9 := hk
    have hK : KindP p := hk.1
    have e2 : decide (p.kind < 2) = served p.kind := by
      unfold served
      by_cases h : p.kind < 2
      · simp [h]; omega
      · simp [h]; omega
    have e3 : chkP p n (opF f) = if numP p = true then (if chkO n (opF f) = 0 then (if p.data.size > 200 then 11 else if spareP p = true then 4 else if covOk p.data p.cover = true then 0 else 3) else chkO n (opF f)) else 3 := by
      unfold chkP; rw [if_pos hc]
    have last : ∀ r, numP p = r → T.ok (fun x => x = Value.int .i64 (chkP p n (opF f))) (bif r then (T.need (OpP n f) (T.ite (!decide (chkO n (opF f) = (0 : Int))) (T.leaf (Value.int IntKind.i64 (chkO n (opF f)))) (T.need ((ByteArray.mk #[]).size ≤ (1000000 : Nat) ∧ p.data.size ≤ (1000000 : Nat)) (T.ite (decide ((p.data.size : Int) > (200 : Int))) (T.leaf (Value.int IntKind.i64 (11 : Int))) (T.need (KindP p) (T.ite (spareP p) (T.leaf (Value.int IntKind.i64 (4 : Int))) (T.ite (!covOk p.data p.cover) (T.leaf (Value.int IntKind.i64 (3 : Int))) (T.leaf (Value.int IntKind.i64 (0 : Int)))))))))) else T.leaf (Value.int IntKind.i64 (3 : Int))) := by
      intro r hr
      rw [e3, hr]
      cases r
      · rfl
      · simp only [cond_true, if_true, T.ok, Bool.not_eq_true', Bool.not_eq_false', decide_eq_true_eq, decide_eq_false_iff_not]
        refine ⟨h1, fun c => ?_, fun c => ⟨⟨z, h2⟩, fun d => ?_, fun d => ⟨hK, fun e => ?_, fun e => ⟨fun g => ?_, fun g => ?_⟩⟩⟩⟩
        · rw [if_neg c]
        · rw [if_pos c, if_pos (by omega)]
        · rw [if_pos c, if_neg (by omega), if_pos e]
        · rw [if_pos c, if_neg (by omega), if_neg (by rw [e]; decide), if_neg (by rw [g]; decide)]
        · rw [if_pos c, if_neg (by omega), if_neg (by rw [e]; decide), if_pos g]
    refine ⟨h1, fun a => ?_, fun _ => ?_⟩
    · rw [hc'] at a; cases a
    · have hr : ∀ r, numP p = r → _ := last
      unfold numP Head.most at hr
      clear last e3
      rw [e2]
      generalize chkP p n (opF f) = v at *
      generalize Head.acks p.kind = a at *
      generalize served p.kind = s at *
      generalize decide (p.kind = 7) = k at *
      generalize wn p.service 4294967296 = x at *
      generalize wn p.code 256 = y at *
      generalize wn p.detail 16777216 = u at *
      generalize p.long = l at *
      have e : wn p.ack (if l = true then 281474976710656 else 16777216) = bif l then wn p.ack 281474976710656 else wn p.ack 16777216 := by cases l <;> rfl
      rw [e] at hr
      clear e
      generalize wn p.ack 16777216 = b at *
      generalize wn p.ack 281474976710656 = c at *
      clear hc hc' hk hK e2
      repeat' (first | exact hr _ rfl | (refine ⟨fun h => ?_, fun h => ?_⟩ <;> (try simp only [Bool.not_eq_true', Bool.not_eq_false'] at h) <;> first | (cases h; done) | subst h | skip))
  · have e3 : chkP p n (opF f) = Head.check (begH p n (opF f) 0) := by unfold chkP; rw [if_neg hc]
    rw [e3]
    refine ⟨h1, fun _ => rfl, fun a => ?_⟩
    exfalso
    apply hc
    have a' : Head.check ⟨p.src, p.dst, wordsP p n (opF f), p.ccval, p.cover, 0, p.kind, p.long, p.seq⟩ = 0 := by simpa using a
    exact a'
end Go.Proofs.Ytodfcalaggfldaa
