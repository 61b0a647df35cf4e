/- A builder of text at this seat's dump: its check, one byte, a text, its length, the text. (The loader refuses the arm of its panic: so the shelf's laying leaves the writers out.) No conditions. -/
import Derived.Test.YtikiieclbeiicaaOctA
import Derived.Test.YtikiieclbeiicaaShelfB
import Derived.Lib.FrozenHead2
import Derived.Lib.OthersKept
import Derived.Test.YtikiieclbeiicaaPaA
namespace Go.Proofs.Ytikiieclbeiicaa
set_option linter.unusedVariables false
set_option linter.unusedSimpArgs false
open Go.RowKit

abbrev IsBld (B b : Nat) (l : List UInt8) (w : World) : Prop := Lib.IsBuilderF 119 5 B b (Lib.byteCells l) w
theorem bld_size : (Try.prog.info? 119).map (·.size) = some 2 := by kernel_rfl
theorem bld_lies : liesAt Try.prog Try.prog.depth 119 (2 / Try.prog.cellsOf 119) 0 119 1 = true := by kernel_rfl
set_option maxRecDepth 100000 in
set_option maxHeartbeats 1000000 in
theorem bld_check (B b : Nat) (bs : List Value) (w : World) (h : Lib.IsBuilderF 119 5 B b bs w) : Calls Try.prog 131 #[.pointer (some ⟨b, 0, none⟩)] w fun e w' => e = .returned (.tuple #[]) ∧ Lib.BuilderAtF 119 5 B b (.pointer (some ⟨b, 0, none⟩)) bs w' ∧ Below B w w' ∧ Lib.OthersKept 5 (some b) w w' := by
  obtain ⟨j, hj, hjs⟩ := Option.map_eq_some_iff.1 bld_size
  rcases h with h | h
  · have c0 := h.cell0
    have sh := h.shape
    have f0 := h.frozen0
    go_enter Try.func131, Try.ntmps131
    go_wp2
    rw [Lib.run_to_unsafe w ⟨b, 0, none⟩ Try.underlying116 Try.underlying159 hj (by rw [hjs]; decide) sh (Nat.zero_lt_succ 1)]
    simp only [Result.andThen]
    rw [Oper.upon_value]
    go_wp2
    rw [run_callFunc_extern Try.func140 (by kernel_rfl) (by kernel_rfl) (by kernel_rfl) (e := Extern.AbiNoEscape.same) (by kernel_rfl)]
    rw [Lib.run_noEscape]
    simp only [Result.andThen]
    rw [Oper.upon_value]
    go_wp2
    rw [Lib.run_from_unsafe w ⟨b, 0, none⟩ Try.underlying159 Try.underlying116 hj sh bld_lies]
    simp only [Result.andThen]
    rw [Oper.upon_value]
    go_wp2
    go_end0
    exact ⟨rfl, h.used _, (Below.refl B w).setCell (p := ⟨b, 0, none⟩) h.1 _, (Lib.OthersKept.refl _ _ w).setCell ⟨b, 0, none⟩ rfl _⟩
  · have c0 := h.cell0
    go_enter Try.func131, Try.ntmps131
    go_wp2
    rw [Lib.run_neq_ptr_same w _ Try.underlying116 hj]
    go_wp2
    go_end0
    exact ⟨rfl, h, Below.refl B _, Lib.OthersKept.refl _ _ _⟩
set_option maxRecDepth 100000 in
set_option maxHeartbeats 2000000 in
theorem bld_byte (B b : Nat) (l : List UInt8) (x : UInt8) (c : Int) (hx : c = (x.toNat : Int)) (w : World) (h : IsBld B b l w) (hl : l.length ≤ 1000000000) (hw : B ≤ w.heap.size) : Calls Try.prog 85 #[.pointer (some ⟨b, 0, none⟩), .int .u8 c] w fun e w' => e = .returned .nilIface ∧ IsBld B b (l ++ [x]) w' ∧ Below B w w' ∧ Lib.OthersKept 5 (some b) w w' := by
  subst hx
  obtain ⟨i0, hi, hz0, hz1, hz2⟩ := info_parts info_u8
  go_enter Try.func85, Try.ntmps85
  go_wp2_with (go_at_call 131; refine (bld_check B b _ _ h).mono ?_)
  rintro e w1 ⟨rfl, h1, hb1, hk1⟩
  obtain ⟨hB, v, hbk, hown, hne⟩ := h1
  have c0 : w1.cell? ⟨b, 0, none⟩ = some (.pointer (some ⟨b, 0, none⟩)) := by rw [Lib.cell_of_heap hbk]; rfl
  have c1 : w1.cell? ⟨b, 1, none⟩ = some v := by rw [Lib.cell_of_heap hbk]; rfl
  have hlb : (Lib.byteCells l).length = l.length := Lib.byteCells_length l
  have hs1 := hb1.size
  go_wp2_with (at_builtin; refine wpList_append_ownF _ rfl _ _ 117 rfl B 5 i0 (.int .u8 0) 1 1 Try.underlying117 hi hz0 hz1 hz2 rfl (by decide) _ _ _ rfl (hown.alloc _) ⟨w1.heap.size, 0, none⟩ 1 1 [.int .u8 (x.toNat : Int)] rfl rfl ?c1 ?c2 ?c3 ?c4 ?c5 ?_)
  case c1 =>
    intro j u hj
    match j, hj with
    | 0, hj => simp at hj; subst hj; simp [Addr.add]
  case c2 => intro u hu; simp at hu; subst hu; rfl
  case c3 => unfold maxLen; omega
  case c4 => omega
  case c5 => simp; omega
  intro v' w2 hown' hgrow _
  have hlt : b < w1.heap.size := (Array.getElem?_eq_some_iff.1 hbk).1
  have hb2 : w2.heap[b]? = some (.cells #[.pointer (some ⟨b, 0, none⟩), v] 119 (0, 0)) := by
    rw [hgrow.block b (by simp; omega) (fun e => hne e.symm), Lib.alloc_old w1 _ b hlt]
    exact hbk
  have d1 : w2.cell? ⟨b, 1, none⟩ = some v := by rw [Lib.cell_of_heap hb2]; rfl
  have f1 : w2.frozen? ⟨b, 1, none⟩ = false := Lib.frozen_of_heap hb2 1
  obtain ⟨ao, m, cap, rfl⟩ : ∃ ao m cap, v' = .slice ao m cap := by
    rcases hown'.2 with ⟨hv, _⟩ | ⟨g, cap, cur, fz, hv, _⟩
    · exact ⟨_, _, _, hv⟩
    · exact ⟨_, _, _, hv⟩
  go_wp2
  go_ret
  have e : Lib.byteCells (l ++ [x]) = Lib.byteCells l ++ [.int .u8 (x.toNat : Int)] := by rw [Lib.byteCells_append]; rfl
  refine ⟨rfl, ?_, ?_, ((hk1.alloc _).grown hgrow (Lib.ownsRowF_kind (hown.alloc _))).setCell ⟨b, 1, none⟩ rfl _⟩
  · show Lib.IsBuilderF _ _ _ _ _ _
    rw [e]
    exact .inr (Lib.BuilderAtF.put (T := 119) (e := 5) hB hb2 (bs' := Lib.byteCells l ++ [.int .u8 (x.toNat : Int)]) (by rw [List.length_append, hlb]; simpa using hown') (by decide))
  · exact ((hb1.alloc (by omega) _).grown hgrow (by simp; omega) (fun k hk => (hown.lt k hk).1)).setCell (p := ⟨b, 1, none⟩) hB _
set_option maxRecDepth 100000 in
set_option maxHeartbeats 2000000 in
theorem bld_text (B b : Nat) (l : List UInt8) (s : ByteArray) (w : World) (h : IsBld B b l w) (hl : l.length ≤ 1000000000) (hs : s.size ≤ 1000000000) (hw : B ≤ w.heap.size) : Calls Try.prog 87 #[.pointer (some ⟨b, 0, none⟩), .string s] w fun e w' => e = .returned (.tuple #[.int .i64 s.size, .nilIface]) ∧ IsBld B b (l ++ s.data.toList) w' ∧ Below B w w' ∧ Lib.OthersKept 5 (some b) w w' := by
  obtain ⟨i0, hi, hz0, hz1, hz2⟩ := info_parts info_u8
  go_enter Try.func87, Try.ntmps87
  go_wp2_with (go_at_call 131; refine (bld_check B b _ _ h).mono ?_)
  rintro e w1 ⟨rfl, h1, hb1, hk1⟩
  obtain ⟨hB, v, hbk, hown, hne⟩ := h1
  have c0 : w1.cell? ⟨b, 0, none⟩ = some (.pointer (some ⟨b, 0, none⟩)) := by rw [Lib.cell_of_heap hbk]; rfl
  have c1 : w1.cell? ⟨b, 1, none⟩ = some v := by rw [Lib.cell_of_heap hbk]; rfl
  have hlb : (Lib.byteCells l).length = l.length := Lib.byteCells_length l
  have hs1 := hb1.size
  go_wp2_with (at_builtin; refine Lib.wpList_append_own_stringF _ rfl _ _ 117 9 rfl B 5 i0 Try.underlying117 Try.underlying9 hi hz0 hz1 hz2 _ _ _ rfl hown s rfl ?c3 ?c4 ?c5 ?_)
  case c3 => unfold maxLen; omega
  case c4 => omega
  case c5 => omega
  intro v' w2 hown' hgrow _
  have hlt : b < w1.heap.size := (Array.getElem?_eq_some_iff.1 hbk).1
  have hb2 : w2.heap[b]? = some (.cells #[.pointer (some ⟨b, 0, none⟩), v] 119 (0, 0)) := by
    rw [hgrow.block b hlt (fun e => hne e.symm)]
    exact hbk
  have d1 : w2.cell? ⟨b, 1, none⟩ = some v := by rw [Lib.cell_of_heap hb2]; rfl
  have f1 : w2.frozen? ⟨b, 1, none⟩ = false := Lib.frozen_of_heap hb2 1
  obtain ⟨ao, m, cap, rfl⟩ : ∃ ao m cap, v' = .slice ao m cap := by
    rcases hown'.2 with ⟨hv, _⟩ | ⟨g, cap, cur, fz, hv, _⟩
    · exact ⟨_, _, _, hv⟩
    · exact ⟨_, _, _, hv⟩
  go_wp2
  go_ret2
  have e : Lib.byteCells (l ++ s.data.toList) = Lib.byteCells l ++ Lib.strCells s := by rw [Lib.byteCells_append]; rfl
  refine ⟨rfl, ?_, ?_, (hk1.grown hgrow (Lib.ownsRowF_kind hown)).setCell ⟨b, 1, none⟩ rfl _⟩
  · show Lib.IsBuilderF _ _ _ _ _ _
    rw [e]
    exact .inr (Lib.BuilderAtF.put (T := 119) (e := 5) hB hb2 (bs' := Lib.byteCells l ++ Lib.strCells s) (by rw [List.length_append, Lib.strCells_length, hlb]; exact hown') (by decide))
  · exact (hb1.grown hgrow (by omega) (fun k hk => (hown.lt k hk).1)).setCell (p := ⟨b, 1, none⟩) hB _
end Go.Proofs.Ytikiieclbeiicaa
namespace Go.Proofs.Ytikiieclbeiicaa
set_option linter.unusedVariables false
set_option linter.unusedSimpArgs false
open Go.RowKit Sym Go.ChangeShapes Go.WideShapes Go.ChangeMaps

set_option maxRecDepth 100000 in
theorem optsize_run (k : Int) (v : ByteArray) : runV Try.prog (onlyS Try.prog noS) noL Try.f86 [.agg #[.int .i64 k, .string v]] = T.ite (decide (k ≤ (31 : Int))) (T.leaf (Value.int IntKind.i64 (1 : Int))) (T.leaf (Value.int IntKind.i64 (IntKind.i64.wrap ((2 : Int) + (↑v.size : Int))))) := by kernel_rfl
theorem opt_size (o : Op) (h : o.val.size ≤ 1000000) (w : World) : Calls Try.prog 86 #[.agg #[.int .i64 o.kind, .string o.val]] w fun e w' => e = .returned (.int .i64 (sizeO o)) ∧ Below w.heap.size w w' := by
  refine calls_runV (onlyS_ok noS_ok) follows Try.func86 (by kernel_rfl) (by kernel_rfl) noL_ok (optsize_run o.kind o.val) ?_ w
  have hw : IntKind.i64.wrap (2 + (o.val.size : Int)) = 2 + (o.val.size : Int) := w64 _ (by omega) (by omega)
  unfold sizeO
  by_cases hk : o.kind ≤ 31
  · simp [T.ok, hk]
  · simp [T.ok, hk, hw]
theorem two_cells {w : World} {a : Addr} {k : Nat} {x y : Value} (h0 : w.cell? (a.add (k * 2 + 0)) = some x) (h1 : w.cell? (a.add (k * 2 + 1)) = some y) : w.cell? (a.add (k * 2)) = some x ∧ w.cell? ⟨(a.add (k * 2)).block, (a.add (k * 2)).off + 1, none⟩ = some y ∧ (a.add (k * 2)).block < w.heap.size := by
  have hb := lt_of_cell h0
  have hs := World.cell?_spot h0
  refine ⟨h0, ?_, hb⟩
  rw [← h1]
  congr 1
  obtain ⟨bb, oo, ss⟩ := a
  by_cases hk : k = 0
  · subst hk
    have : ss = none := by simpa [Addr.add] using hs
    subst this
    simp [Addr.add]
  · have e1 : ¬ k * 2 = 0 := by omega
    have e2 : ¬ k * 2 + 1 = 0 := by omega
    simp [Addr.add, e1, hk] at hs ⊢
    omega
theorem optL_le {n : Nat} {g : Nat → Op} (h : ∀ i, i < n → rightO (g i) = 0) : ∀ k, k ≤ n → (optL g k).length ≤ 255 * k
  | 0, _ => Nat.le_refl _
  | k + 1, hk => by
    have := optL_le h k (by omega)
    have h1 := bytesO_len (h k (by omega))
    have h2 := rightO_ok (h k (by omega))
    have h3 := sizeO_bd (g k)
    simp only [optL, List.length_append]
    omega
theorem bld_below {B b : Nat} {l : List UInt8} {w w' : World} (h : IsBld B b l w) (hb : Below w.heap.size w w') : IsBld B b l w' := by
  have one : ∀ p, Lib.BuilderAtF 119 5 B b p (Lib.byteCells l) w → Lib.BuilderAtF 119 5 B b p (Lib.byteCells l) w' := by
    rintro p ⟨h1, v, h2, h3, h4⟩
    refine ⟨h1, v, (hb.block b (Array.getElem?_eq_some_iff.1 h2).1).trans h2, ⟨h3.1, ?_⟩, h4⟩
    rcases h3.2 with h5 | ⟨g, cap, cur, fz, e1, e2, e3, e4⟩
    · exact .inl h5
    · exact .inr ⟨g, cap, cur, fz, e1, e2, (hb.block g (Array.getElem?_eq_some_iff.1 e3).1).trans e3, e4⟩
  rcases h with h | h
  · exact .inl (one _ h)
  · exact .inr (one _ h)
theorem bld_lt {B b : Nat} {l : List UInt8} {w : World} (h : IsBld B b l w) : b < w.heap.size := by
  rcases h with h | h <;> exact h.lt
def bldLen (w : World) (b : Nat) : Nat := match w.cell? ⟨b, 1, none⟩ with | some (.slice _ n _) => n | _ => 0
theorem bld_len {B b : Nat} {l : List UInt8} {w : World} (h : IsBld B b l w) : bldLen w b = l.length := by
  have one : ∀ p, Lib.BuilderAtF 119 5 B b p (Lib.byteCells l) w → bldLen w b = l.length := by
    rintro p ⟨h1, v, h2, h3, h4⟩
    have c1 : w.cell? ⟨b, 1, none⟩ = some v := by rw [Lib.cell_of_heap h2]; rfl
    have hl : (Lib.byteCells l).length = l.length := Lib.byteCells_length l
    unfold bldLen
    rw [c1]
    rcases h3.2 with ⟨rfl, h5⟩ | ⟨g, cap, cur, fz, rfl, e2⟩
    · show 0 = _; omega
    · exact hl
  rcases h with h | h <;> exact one _ h
def putS (n : Nat) (g : Nat → Op) : ByteArray := if chkO n g = 0 then ⟨⟨optP n g⟩⟩ else ⟨⟨[]⟩⟩
set_option maxRecDepth 100000 in
set_option maxHeartbeats 2000000 in
theorem opts_Put (n : Nat) (g : Nat → Op) (hf : Few n g) (v : Value) (w : World) (hv : ∀ B, BlkSat B w v (.row n 2 fun i j => (g i).c j)) : Calls Try.prog 33 #[v] w fun e w' => e = .returned (.tuple #[.string (putS n g), .int .i64 (chkO n g)]) ∧ Below w.heap.size w w' := by
  obtain ⟨p, cap, rfl, hc1, hc2, hc3⟩ := hv [v]
  have hf' := hf
  obtain ⟨f1, f2⟩ := hf'
  by_cases hz : chkO n g = 0
  · obtain ⟨hr, hs⟩ := chkO_ok hz
    have hput : putS n g = ⟨⟨optP n g⟩⟩ := if_pos hz
    have hn : n ≤ 1000 := f1
    have hch := fun v w hv => opts_Check n g hf v w hv
    rw [hz] at hch
    go_enter Try.func33, Try.ntmps33
    go_wp2_with (go_at_call 42; refine (hch _ _ hv).mono ?_; rintro e w1 ⟨rfl, hb1⟩)
    go_loopw [15] (fun i wr => ∃ k : Nat, k ≤ n ∧ i = .int .i64 k ∧ IsBld w1.heap.size w1.heap.size (optL g k) wr ∧ Below w1.heap.size w1 wr) (fun i _ => n - (intOf i).toNat)
    case atStart => exact ⟨0, Nat.zero_le _, rfl, Lib.IsBuilderF.of (Lib.fresh_isBuilder 119 5 w1), (Below.refl _ w1).alloc (Nat.le_refl _) _⟩
    case round =>
      obtain ⟨k, hk, rfl, hI, hbl⟩ := hrel
      have hbs := hbl.size
      by_cases hlt : k < n
      · obtain ⟨a, rfl, h0⟩ := hc3 k 0 hlt (by decide)
        obtain ⟨a', ha', h1⟩ := hc3 k 1 hlt (by decide)
        obtain rfl : a = a' := by simpa using ha'
        obtain ⟨r0, r1, rb⟩ := two_cells h0 h1
        have g0 := ((hb1.trans (hbl.mono hb1.size)).cell (p := a.add (k * 2)) rb).trans r0
        have g1 := ((hb1.trans (hbl.mono hb1.size)).cell (p := ⟨(a.add (k * 2)).block, (a.add (k * 2)).off + 1, none⟩) rb).trans r1
        obtain ⟨q1, q2, q3, q4⟩ := rightO_ok (hr k hlt)
        have hlen := optL_le hr k (by omega)
        simp only [Op.c] at g0 g1
        clear h0 h1 r0 r1 ha'
        have hbw := bld_lt hI
        go_wp2_with (go_at_call 85; refine (bld_byte w1.heap.size w1.heap.size (optL g k) (UInt8.ofNat (g k).kind.toNat) _ (by rw [UInt8.toNat_ofNat']; omega) _ (Lib.IsBuilderF.alloc hI _) (by omega) (by simp; omega)).mono ?_)
        rintro e w2 ⟨rfl, hI2, hb2, hk2⟩
        have ho : w2.heap[wr.heap.size]? = some (.cells #[.int .i64 (g k).kind, .string (g k).val] 78 (0, 0)) := hk2 wr.heap.size _ (by first | exact Lib.heap_alloc_new _ _ | exact heap_alloc_new _ _) (by simp; omega) (fun c fz h => by cases h)
        have o0 : w2.cell? ⟨wr.heap.size, 0, none⟩ = some (.int .i64 (g k).kind) := by rw [Lib.cell_of_heap ho]; rfl
        have o1 : w2.cell? ⟨wr.heap.size, 1, none⟩ = some (.string (g k).val) := by rw [Lib.cell_of_heap ho]; rfl
        have hbl2 := (below_alloc hbl (.cells #[.int .i64 (g k).kind, .string (g k).val] 78)).trans hb2
        have hs2 := hbl2.size
        by_cases h31 : (g k).kind ≤ 31
        · have eb : bytesO (g k) = [UInt8.ofNat (g k).kind.toNat] := by unfold bytesO; rw [if_pos h31]
          go_wp2
          go_roundw
          case rel =>
            refine ⟨k + 1, by omega, by go_num, ?_, hbl2⟩
            simp only [optL]
            rw [eb]
            exact hI2
          case measure => simp [intOf]; omega
        · have eb : bytesO (g k) = UInt8.ofNat (g k).kind.toNat :: UInt8.ofNat ((g k).val.size + 2) :: (g k).val.data.toList := by unfold bytesO; rw [if_neg h31]
          have eS : sizeO (g k) = ((g k).val.size + 2 : Nat) := by unfold sizeO; rw [if_neg h31]; omega
          have hsz := fun w => opt_size (g k) (by omega) w
          rw [eS] at hsz
          generalize hq : (g k).val.size + 2 = q at hsz eb
          have hq1 : (q : Int) ≤ 255 := by omega
          have hq2 : 0 ≤ (q : Int) := by omega
          go_wp2_with (go_at_call 86; refine (hsz _).mono ?_)
          rintro e w3 ⟨rfl, hb3⟩
          have hI3 := bld_below hI2 hb3
          have hs3 := hb3.size
          have ho3 : w3.heap[wr.heap.size]? = _ := (hb3.block _ (Array.getElem?_eq_some_iff.1 ho).1).trans ho
          go_wp2_with (go_at_call 85; refine (bld_byte w1.heap.size w1.heap.size _ (UInt8.ofNat q) _ (by rw [UInt8.toNat_ofNat']; omega) _ hI3 (by simp; omega) (by omega)).mono ?_)
          rintro e w4 ⟨rfl, hI4, hb4, hk4⟩
          have hs4 := hb4.size
          have ho4 : w4.heap[wr.heap.size]? = some (.cells #[.int .i64 (g k).kind, .string (g k).val] 78 (0, 0)) := hk4 wr.heap.size _ ho3 (by simp; omega) (fun c fz h => by cases h)
          have n1 : w4.cell? ⟨wr.heap.size, 1, none⟩ = some (.string (g k).val) := by rw [Lib.cell_of_heap ho4]; rfl
          go_wp2_with (go_at_call 87; refine (bld_text w1.heap.size w1.heap.size _ (g k).val _ hI4 (by simp; omega) (by omega) (by omega)).mono ?_)
          rintro e w5 ⟨rfl, hI5, hb5, hk5⟩
          go_wp2
          go_roundw
          case rel =>
            refine ⟨k + 1, by omega, by go_num, ?_, ((hbl2.trans (hb3.mono hs2)).trans hb4).trans hb5⟩
            simp only [optL]
            rw [eb]
            simpa using hI5
          case measure => simp [intOf]; omega
      · obtain rfl : k = n := by omega
        clear hc3
        have hlen := optL_le hr k (Nat.le_refl _)
        have hpad : padN (optL g k).length < 4 := by unfold padN; omega
        have hbw := bld_lt hI
        go_wp2
        go_loopw [] (fun wr => ∃ m : Nat, m ≤ padN (optL g k).length ∧ IsBld w1.heap.size w1.heap.size (optL g k ++ List.replicate m 0) wr ∧ Below w1.heap.size w1 wr) (fun wr => 1000000 - bldLen wr w1.heap.size)
        case atStart => exact ⟨0, Nat.zero_le _, by simpa using hI, hbl⟩
        case round =>
          clear hI hbl hbw hbs
          obtain ⟨m, hm, hI, hbl⟩ := hrel
          have hbs := hbl.size
          have hq : (optL g k ++ List.replicate m 0).length = (optL g k).length + m := by simp
          have hln := bld_len hI
          rw [hq] at hln
          have hLen := Try.Builder_Len_f w1.heap.size w1.heap.size _ wr hI
          rw [Lib.byteCells_length, hq] at hLen
          by_cases h4 : ((optL g k).length + m) % 4 = 0
          · have hmm : m = padN (optL g k).length := by unfold padN at hm ⊢; omega
            have ht : ((((optL g k).length + m : Nat) : Int)).tmod 4 = 0 := by rw [show (4 : Int) = ((4 : Nat) : Int) from rfl, ← Int.ofNat_tmod]; omega
            go_wp2_with (go_at_call 88; refine hLen.mono ?_; rintro e w2 ⟨rfl, rfl⟩)
            go_wp2_with (go_at_call 89; refine (Try.Builder_String_any_f w1.heap.size w1.heap.size _ _ hI hbs).mono ?_)
            rintro e w3 ⟨rfl, hI3, hb3⟩
            go_wp2
            go_ret2
            rw [hput, hz]
            subst hmm
            exact ⟨rfl, hb1.trans ((hbl.trans hb3).mono hb1.size)⟩
          · have ht : ¬ ((((optL g k).length + m : Nat) : Int)).tmod 4 = 0 := by rw [show (4 : Int) = ((4 : Nat) : Int) from rfl, ← Int.ofNat_tmod]; omega
            go_wp2_with (go_at_call 88; refine hLen.mono ?_; rintro e w2 ⟨rfl, rfl⟩)
            go_wp2_with (go_at_call 85; refine (bld_byte w1.heap.size w1.heap.size _ 0 _ rfl _ hI (by omega) hbs).mono ?_)
            rintro e w3 ⟨rfl, hI3, hb3, hk3⟩
            have hln3 := bld_len hI3
            rw [List.length_append, hq] at hln3
            go_wp2
            go_roundw
            case rel =>
              refine ⟨m + 1, by unfold padN at hm ⊢; omega, ?_, hbl.trans hb3⟩
              rw [List.replicate_succ', ← List.append_assoc]
              exact hI3
            case measure => simp at hln3; omega
  · have hput : putS n g = ⟨⟨[]⟩⟩ := if_neg hz
    have hch := fun v w hv => opts_Check n g hf v w hv
    obtain ⟨c, hc⟩ : ∃ c, c = chkO n g := ⟨_, rfl⟩
    rw [← hc] at hz hch
    have HC := Lib.hid hc
    clear hc
    go_enter Try.func33, Try.ntmps33
    go_wp2_with (go_at_call 42; refine (hch _ _ hv).mono ?_; rintro e w1 ⟨rfl, hb1⟩)
    go_ret2
    rw [hput, ← HC.out]
    exact ⟨rfl, hb1⟩
end Go.Proofs.Ytikiieclbeiicaa
namespace Go.Proofs.Ytikiieclbeiicaa
set_option linter.unusedVariables false
set_option linter.unusedSimpArgs false
open Go.RowKit Sym Go.ChangeShapes Go.WideShapes Go.ChangeMaps

def pt_st (n : Nat) (g : Nat → Op) (s : ByteArray) (i : Int) : St := ⟨[(0, some (.ref 0)), (5, some (.v (.string s))), (6, some (.v (.int .i64 i)))], [.row n 2 fun i j => (g i).c j]⟩
def pd_st (n : Nat) (g : Nat → Op) (s : ByteArray) : St := ⟨[(5, some (.v (.string s)))], [.row n 2 fun i j => (g i).c j]⟩
abbrev CPt (P : Program) : Cfg := both P noS FOpt2 fsOpt
set_option maxRecDepth 100000 in
theorem pt_round (n : Nat) (g : Nat → Op) (s : ByteArray) (i : Int) : roundM Try.prog (CPt Try.prog) noL Try.f99.ntmps 0 (loopAt Try.f99 0) 1 [0, 5, 6] [] [] (pt_st n g s i) = T.ite (decide (i < (↑n : Int))) (T.need ((0 : Int) ≤ i ∧ i < (↑n : Int)) (T.need (i.toNat < n) (T.need ([Value.int IntKind.u8 (IntKind.u8.wrap (g i.toNat).1)] = [Value.int IntKind.u8 (↑(UInt8.ofBitVec (BitVec.ofFin (Fin.mk ((IntKind.u8.wrap (g i.toNat).1).toNat.mod (256 : Nat)) (Nat.mod_lt (IntKind.u8.wrap (g i.toNat).1).toNat (BitVec.ofNat._proof_1 (8 : Nat)))))).toNat : Int)]) (T.need (s.size + (ByteArray.mk (Array.mk (Sym.strOf [Value.int IntKind.u8 (IntKind.u8.wrap (g i.toNat).1)]))).size ≤ (9223372036854775807 : Nat)) (T.need ((0 : Int) ≤ i ∧ i < (↑n : Int)) (T.need (i.toNat < n) (T.ite (decide ((g i.toNat).1 > (31 : Int))) (T.need ((0 : Int) ≤ i ∧ i < (↑n : Int)) (T.need (i.toNat < n) (T.need ([Value.int IntKind.u8 (IntKind.u8.wrap (IntKind.i64.wrap ((↑(g i.toNat).2.size : Int) + (2 : Int))))] = [Value.int IntKind.u8 (↑(UInt8.ofBitVec (BitVec.ofFin (Fin.mk ((IntKind.u8.wrap (IntKind.i64.wrap ((↑(g i.toNat).2.size : Int) + (2 : Int)))).toNat.mod (256 : Nat)) (Nat.mod_lt (IntKind.u8.wrap (IntKind.i64.wrap ((↑(g i.toNat).2.size : Int) + (2 : Int)))).toNat (BitVec.ofNat._proof_1 (8 : Nat)))))).toNat : Int)]) (T.need ((s ++ ByteArray.mk (Array.mk (Sym.strOf [Value.int IntKind.u8 (IntKind.u8.wrap (g i.toNat).1)]))).size + (ByteArray.mk (Array.mk (Sym.strOf [Value.int IntKind.u8 (IntKind.u8.wrap (IntKind.i64.wrap ((↑(g i.toNat).2.size : Int) + (2 : Int))))]))).size ≤ (9223372036854775807 : Nat)) (T.need ((0 : Int) ≤ i ∧ i < (↑n : Int)) (T.need (i.toNat < n) (T.need ((s ++ ByteArray.mk (Array.mk (Sym.strOf [Value.int IntKind.u8 (IntKind.u8.wrap (g i.toNat).1)])) ++ ByteArray.mk (Array.mk (Sym.strOf [Value.int IntKind.u8 (IntKind.u8.wrap (IntKind.i64.wrap ((↑(g i.toNat).2.size : Int) + (2 : Int))))]))).size + (g i.toNat).2.size ≤ (9223372036854775807 : Nat)) (T.leaf (Ex.normal, St.mk [((0 : Nat), some (SV.ref (0 : Nat))), ((5 : Nat), some (SV.v (Value.string (s ++ ByteArray.mk (Array.mk (Sym.strOf [Value.int IntKind.u8 (IntKind.u8.wrap (g i.toNat).1)])) ++ ByteArray.mk (Array.mk (Sym.strOf [Value.int IntKind.u8 (IntKind.u8.wrap (IntKind.i64.wrap ((↑(g i.toNat).2.size : Int) + (2 : Int))))])) ++ (g i.toNat).2)))), ((6 : Nat), some (SV.v (Value.int IntKind.i64 (IntKind.i64.wrap (i + (1 : Int))))))] [Blk.row n (2 : Nat) fun i j => (g i).c j]))))))))) (T.leaf (Ex.normal, St.mk [((0 : Nat), some (SV.ref (0 : Nat))), ((5 : Nat), some (SV.v (Value.string (s ++ ByteArray.mk (Array.mk (Sym.strOf [Value.int IntKind.u8 (IntKind.u8.wrap (g i.toNat).1)])))))), ((6 : Nat), some (SV.v (Value.int IntKind.i64 (IntKind.i64.wrap (i + (1 : Int))))))] [Blk.row n (2 : Nat) fun i j => (g i).c j]))))))))) (T.leaf (Ex.exit (0 : Nat), St.mk [((0 : Nat), some (SV.ref (0 : Nat))), ((5 : Nat), some (SV.v (Value.string s))), ((6 : Nat), some (SV.v (Value.int IntKind.i64 i)))] [Blk.row n (2 : Nat) fun i j => (g i).c j])) := by kernel_rfl
set_option maxRecDepth 100000 in
theorem pd_round (n : Nat) (g : Nat → Op) (s : ByteArray) : roundM Try.prog (CPt Try.prog) noL Try.f99.ntmps 2 (loopAt Try.f99 1) 1 [5] [] [] (pd_st n g s) = T.ite (!decide ((↑s.size : Int).tmod (4 : Int) = (0 : Int))) (T.need (s.size + (1 : Nat) ≤ (9223372036854775807 : Nat)) (T.leaf (Ex.normal, St.mk [((5 : Nat), some (SV.v (Value.string (s ++ ByteArray.mk (Array.mk [UInt8.ofBitVec (BitVec.ofFin (Fin.mk (0 : Nat) (Nat.mod_lt (0 : Nat) (BitVec.ofNat._proof_1 (8 : Nat)))))])))))] [Blk.row n (2 : Nat) fun i j => (g i).c j]))) (T.leaf (Ex.exit (2 : Nat), St.mk [((5 : Nat), some (SV.v (Value.string s)))] [Blk.row n (2 : Nat) fun i j => (g i).c j])) := by kernel_rfl
def Lpt (P : Program) (C : Cfg) (fn : Func) (n : Nat) (g : Nat → Op) (s1 s2 : ByteArray) : Nat → St → Option (T (Ex × St)) :=
  addL 2 (fun st => .need (st.H.length = 1) (.need (st.tidy 1 [5] [] [] = pd_st n g s1) ((roundM P C noL fn.ntmps 2 (loopAt fn 1) 1 [5] [] [] (closeAt [] (pd_st n g s2))).bind (lastX 2)))) <|
  addL 0 (fun st => .need (st.H.length = 1) (.need (st.tidy 1 [0, 5, 6] [] [] = pt_st n g ⟨⟨[]⟩⟩ (0 : Nat)) ((roundM P C noL fn.ntmps 0 (loopAt fn 0) 1 [0, 5, 6] [] [] (closeAt [] (pt_st n g s1 (n : Nat)))).bind (lastX 0)))) noL
set_option maxRecDepth 100000 in
theorem pt_run (n : Nat) (g : Nat → Op) (s1 s2 : ByteArray) : runO Try.prog (CPt Try.prog) (Lpt Try.prog (CPt Try.prog) Try.f99 n g s1 s2) Try.f99 [.ref 0] [.row n 2 fun i j => (g i).c j] = T.need (OpP n fun i j => (g i).c j) (T.ite (!decide (chkO n (opF fun i j => (g i).c j) = (0 : Int))) (T.leaf (Value.tuple (Array.mk [Value.string (ByteArray.mk (Array.mk [])), Value.int IntKind.i64 (chkO n (opF fun i j => (g i).c j))]))) (T.need ((1 : Nat) = (1 : Nat)) (T.need (St.mk [((0 : Nat), some (SV.ref (0 : Nat))), ((5 : Nat), some (SV.v (Value.string (ByteArray.mk (Array.mk []))))), ((6 : Nat), some (SV.v (Value.int IntKind.i64 (0 : Int))))] [Blk.row n (2 : Nat) fun i j => (g i).c j] = pt_st n g (ByteArray.mk (Array.mk [])) (0 : Int)) (T.ite (decide ((↑n : Int) < (↑n : Int))) (T.need ((0 : Int) ≤ (↑n : Int) ∧ (↑n : Int) < (↑n : Int)) (T.need ((↑n : Int).toNat < n) (T.need ([Value.int IntKind.u8 (IntKind.u8.wrap (g (↑n : Int).toNat).1)] = [Value.int IntKind.u8 (↑(UInt8.ofBitVec (BitVec.ofFin (Fin.mk ((IntKind.u8.wrap (g (↑n : Int).toNat).1).toNat.mod (256 : Nat)) (Nat.mod_lt (IntKind.u8.wrap (g (↑n : Int).toNat).1).toNat (BitVec.ofNat._proof_1 (8 : Nat)))))).toNat : Int)]) (T.need (s1.size + (ByteArray.mk (Array.mk (Sym.strOf [Value.int IntKind.u8 (IntKind.u8.wrap (g (↑n : Int).toNat).1)]))).size ≤ (9223372036854775807 : Nat)) (T.need ((0 : Int) ≤ (↑n : Int) ∧ (↑n : Int) < (↑n : Int)) (T.need ((↑n : Int).toNat < n) (T.ite (decide ((g (↑n : Int).toNat).1 > (31 : Int))) (T.need ((0 : Int) ≤ (↑n : Int) ∧ (↑n : Int) < (↑n : Int)) (T.need ((↑n : Int).toNat < n) (T.need ([Value.int IntKind.u8 (IntKind.u8.wrap (IntKind.i64.wrap ((↑(g (↑n : Int).toNat).2.size : Int) + (2 : Int))))] = [Value.int IntKind.u8 (↑(UInt8.ofBitVec (BitVec.ofFin (Fin.mk ((IntKind.u8.wrap (IntKind.i64.wrap ((↑(g (↑n : Int).toNat).2.size : Int) + (2 : Int)))).toNat.mod (256 : Nat)) (Nat.mod_lt (IntKind.u8.wrap (IntKind.i64.wrap ((↑(g (↑n : Int).toNat).2.size : Int) + (2 : Int)))).toNat (BitVec.ofNat._proof_1 (8 : Nat)))))).toNat : Int)]) (T.need ((s1 ++ ByteArray.mk (Array.mk (Sym.strOf [Value.int IntKind.u8 (IntKind.u8.wrap (g (↑n : Int).toNat).1)]))).size + (ByteArray.mk (Array.mk (Sym.strOf [Value.int IntKind.u8 (IntKind.u8.wrap (IntKind.i64.wrap ((↑(g (↑n : Int).toNat).2.size : Int) + (2 : Int))))]))).size ≤ (9223372036854775807 : Nat)) (T.need ((0 : Int) ≤ (↑n : Int) ∧ (↑n : Int) < (↑n : Int)) (T.need ((↑n : Int).toNat < n) (T.need ((s1 ++ ByteArray.mk (Array.mk (Sym.strOf [Value.int IntKind.u8 (IntKind.u8.wrap (g (↑n : Int).toNat).1)])) ++ ByteArray.mk (Array.mk (Sym.strOf [Value.int IntKind.u8 (IntKind.u8.wrap (IntKind.i64.wrap ((↑(g (↑n : Int).toNat).2.size : Int) + (2 : Int))))]))).size + (g (↑n : Int).toNat).2.size ≤ (9223372036854775807 : Nat)) (T.stuck (39 : Nat))))))))) (T.stuck (39 : Nat))))))))) (T.need ((1 : Nat) = (1 : Nat)) (T.need (St.mk [((5 : Nat), some (SV.v (Value.string s1)))] [Blk.row n (2 : Nat) fun i j => (g i).c j] = pd_st n g s1) (T.ite (!decide ((↑s2.size : Int).tmod (4 : Int) = (0 : Int))) (T.need (s2.size + (1 : Nat) ≤ (9223372036854775807 : Nat)) (T.stuck (39 : Nat))) (T.leaf (Value.tuple (Array.mk [Value.string s2, Value.int IntKind.i64 (0 : Int)])))))))))) := by kernel_rfl
set_option maxRecDepth 100000 in
theorem pt_run0 (n : Nat) (g : Nat → Op) : runO Try.prog (CPt Try.prog) noL Try.f99 [.ref 0] [.row n 2 fun i j => (g i).c j] = T.need (OpP n fun i j => (g i).c j) (T.ite (!decide (chkO n (opF fun i j => (g i).c j) = (0 : Int))) (T.leaf (Value.tuple (Array.mk [Value.string (ByteArray.mk (Array.mk [])), Value.int IntKind.i64 (chkO n (opF fun i j => (g i).c j))]))) (T.stuck (3000 : Nat))) := by kernel_rfl
end Go.Proofs.Ytikiieclbeiicaa
namespace Go.Proofs.Ytikiieclbeiicaa
set_option linter.unusedVariables false
set_option linter.unusedSimpArgs false
open Go.RowKit Sym Go.ChangeShapes Go.WideShapes Go.ChangeMaps

theorem CPt_ok : CfgOk Try.prog (CPt Try.prog) := both_ok noS_ok FOpt2_ok
theorem u8_in {z : Int} (h0 : 0 ≤ z) (h1 : z < 256) : IntKind.u8.wrap z = z := by
  simp only [IntKind.wrap, IntKind.bits, IntKind.signed]
  simp
  omega
theorem u8_of {z : Int} (h0 : 0 ≤ z) (h1 : z ≤ 255) : ((UInt8.ofNat z.toNat).toNat : Int) = z := by rw [UInt8.toNat_ofNat']; omega
theorem u8_one {z : Int} (h0 : 0 ≤ z) (h1 : z ≤ 255) (p : z.toNat.mod 256 < 2 ^ 8) : [Value.int .u8 z] = [Value.int .u8 ((UInt8.ofBitVec (BitVec.ofFin (Fin.mk (z.toNat.mod 256) p))).toNat : Int)] := by
  have e : (UInt8.ofBitVec (BitVec.ofFin (Fin.mk (z.toNat.mod 256) p))) = UInt8.ofNat z.toNat := rfl
  rw [e, u8_of h0 h1]
def textO (g : Nat → Op) (i : Nat) : ByteArray := ⟨⟨optL g i⟩⟩
theorem textO_size (g : Nat → Op) (i : Nat) : (textO g i).size = (optL g i).length := rfl
theorem textO_succ (g : Nat → Op) (i : Nat) : textO g (i + 1) = textO g i ++ ⟨⟨bytesO (g i)⟩⟩ := by
  unfold textO
  apply ByteArray.ext
  simp [optL]
set_option maxRecDepth 100000 in
theorem pt_step (n : Nat) (g : Nat → Op) (hf : Few n g) (hr : ∀ i, i < n → rightO (g i) = 0) : ∀ i : Nat, i ≤ n → i ≠ n → (roundM Try.prog (CPt Try.prog) noL Try.f99.ntmps 0 (loopAt Try.f99 0) 1 [0, 5, 6] [] [] (pt_st n g (textO g i) (i : Nat))).ok fun r => r.1 = .normal ∧ ∃ j, j ≤ n ∧ n - j < n - i ∧ r.2 = pt_st n g (textO g j) (j : Nat) := by
  intro i hi hne
  obtain ⟨f1, f2⟩ := hf
  have hl := optL_le hr i hi
  have hz := textO_size g i
  obtain ⟨q1, q2, q3, q4⟩ := rightO_ok (hr i (by omega))
  have fin : ∀ (s : ByteArray) (z : Int), s = textO g (i + 1) → z = ((i + 1 : Nat) : Int) → ∃ j, j ≤ n ∧ n - j < n - i ∧ pt_st n g s z = pt_st n g (textO g j) (j : Nat) := fun s z h1 h2 => ⟨i + 1, by omega, by omega, by rw [h1, h2]⟩
  rw [textO_succ] at fin
  rw [pt_round]
  have hw : IntKind.i64.wrap ((i : Int) + 1) = ((i + 1 : Nat) : Int) := by rw [w64i (by omega) (by omega)]; rfl
  rw [Int.toNat_natCast, hw]
  generalize textO g i = s at *
  generalize g i = o at *
  obtain ⟨k, v⟩ := o
  simp only at q1 q2 q3 q4
  have hk : IntKind.u8.wrap k = k := u8_in (by omega) (by omega)
  have hv : IntKind.i64.wrap ((v.size : Int) + 2) = (v.size : Int) + 2 := w64i (by omega) (by omega)
  have hq : IntKind.u8.wrap ((v.size : Int) + 2) = (v.size : Int) + 2 := u8_in (by omega) (by omega)
  have hb : (bytesO ⟨k, v⟩) = UInt8.ofNat k.toNat :: (if k ≤ 31 then [] else UInt8.ofNat (v.size + 2) :: v.data.toList) := rfl
  rw [hb] at fin
  show T.ok _ (T.ite _ _ _)
  simp only [hk, hv, hq]
  have s1 : (ByteArray.mk (Array.mk (Sym.strOf [Value.int IntKind.u8 k]))) = ⟨⟨[UInt8.ofNat k.toNat]⟩⟩ := rfl
  have s2 : (ByteArray.mk (Array.mk (Sym.strOf [Value.int IntKind.u8 ((v.size : Int) + 2)]))) = ⟨⟨[UInt8.ofNat (v.size + 2)]⟩⟩ := rfl
  rw [s1, s2]
  have z1 : ∀ x : UInt8, (ByteArray.mk (Array.mk [x])).size = 1 := fun _ => rfl
  refine ⟨fun _ => ⟨⟨by omega, by omega⟩, by omega, u8_one (by omega) (by omega) _, by rw [z1]; omega, ⟨by omega, by omega⟩, by omega, fun h => ?_, fun h => ?_⟩, fun h => ?_⟩
  · have h := of_decide_eq_true h
    rw [if_neg (by omega)] at fin
    refine ⟨⟨by omega, by omega⟩, by omega, u8_one (by omega) (by omega) _, ?_, ⟨by omega, by omega⟩, by omega, ?_, rfl, fin _ _ ?_ rfl⟩
    · rw [ByteArray.size_append, z1, z1]; omega
    · rw [ByteArray.size_append, ByteArray.size_append, z1, z1]; omega
    · apply ByteArray.ext
      apply Array.ext'
      simp
  · have h := of_decide_eq_false h
    rw [if_pos (by omega)] at fin
    exact ⟨rfl, fin _ _ rfl rfl⟩
  · have h := of_decide_eq_false h
    omega
def padS (g : Nat → Op) (n m : Nat) : ByteArray := ⟨⟨optL g n ++ List.replicate m 0⟩⟩
set_option maxRecDepth 100000 in
theorem pd_step (n : Nat) (g : Nat → Op) (hl : (optL g n).length ≤ 1000000) : ∀ i : Nat, i ≤ padN (optL g n).length → i ≠ padN (optL g n).length → (roundM Try.prog (CPt Try.prog) noL Try.f99.ntmps 2 (loopAt Try.f99 1) 1 [5] [] [] (pd_st n g (padS g n i))).ok fun r => r.1 = .normal ∧ ∃ j, j ≤ padN (optL g n).length ∧ padN (optL g n).length - j < padN (optL g n).length - i ∧ r.2 = pd_st n g (padS g n j) := by
  intro i hi hne
  have hz : (padS g n i).size = (optL g n).length + i := by show (optL g n ++ List.replicate i 0).length = _; simp
  have hs : padS g n (i + 1) = padS g n i ++ ⟨⟨[0]⟩⟩ := by
    unfold padS
    apply ByteArray.ext
    simp [List.replicate_succ']
  have ht : ((padS g n i).size : Int).tmod 4 = ((padS g n i).size % 4 : Nat) := (Int.ofNat_tmod _ 4).symm
  have hp : padN (optL g n).length = (4 - (optL g n).length % 4) % 4 := rfl
  rw [pd_round]
  refine ⟨fun _ => ⟨by omega, rfl, i + 1, by omega, by omega, by rw [hs]; rfl⟩, fun h => ?_⟩
  rw [ht] at h
  by_cases e : (((padS g n i).size % 4 : Nat) : Int) = 0
  · omega
  · rw [decide_eq_false e] at h; cases h
set_option maxRecDepth 100000 in
theorem ref07_Put (n : Nat) (g : Nat → Op) (hf : Few n g) (v : Value) (w : World) (hv : ∀ B, BlkSat B w v (.row n 2 fun i j => (g i).c j)) : Calls Try.prog 99 #[v] w fun e w' => e = .returned (.tuple #[.string (putS n g), .int .i64 (chkO n g)]) ∧ Below w.heap.size w w' := by
  have hS := CPt_ok
  have hp : OpP n fun i j => (g i).c j := ⟨allOp_c n g, hf⟩
  have ho : (opF fun i j => (g i).c j) = g := rfl
  by_cases hz : chkO n g = 0
  · obtain ⟨hr, hs⟩ := chkO_ok hz
    have hl : (optL g n).length ≤ 1000000 := by have := optL_le hr n (Nat.le_refl _); have := hf.1; omega
    refine calls_runO hS follows Try.func99 (by kernel_rfl) (by kernel_rfl) (two_loops (b1 := loopAt Try.f99 0) (b2 := loopAt Try.f99 1) (id1 := 0) (id2 := 2) (by kernel_rfl) (fun st t h => ?_) (fun st t h => ?_)) (pt_run n g (padS g n 0) (padS g n (padN (optL g n).length))) ?_ (mem_row (hv [v])) rfl
    · rw [addL_same (addL_other (by decide) h)]
      have k := fun st => loop_cnt (st := st) (N := Try.f99.ntmps) (id := 0) (body := loopAt Try.f99 0) hS follows (by kernel_rfl) (noloops (by kernel_rfl)) (fun i => i ≤ n) (fun i => pt_st n g (textO g i) (i : Nat)) (fun i => n - i) 1 [0, 5, 6] [] [] n [] (pt_step n g hf hr) (i0 := 0) (Nat.zero_le _)
      have e : padS g n 0 = textO g n := by unfold padS textO; rw [List.replicate_zero, List.append_nil]
      rw [e]
      exact k _
    · rw [addL_same h]
      exact loop_cnt hS follows (by kernel_rfl) (noloops (by kernel_rfl)) (fun i => i ≤ padN (optL g n).length) (fun i => pd_st n g (padS g n i)) (fun i => padN (optL g n).length - i) 1 [5] [] [] (padN (optL g n).length) [] (pd_step n g hl) (Nat.zero_le _)
    · rw [ho]
      have hput : putS n g = padS g n (padN (optL g n).length) := if_pos hz
      have hsz : (padS g n (padN (optL g n).length)).size = (optL g n).length + padN (optL g n).length := by show (optL g n ++ List.replicate _ 0).length = _; simp
      have ht : ((padS g n (padN (optL g n).length)).size : Int).tmod 4 = ((padS g n (padN (optL g n).length)).size % 4 : Nat) := (Int.ofNat_tmod _ 4).symm
      have hpd : padN (optL g n).length = (4 - (optL g n).length % 4) % 4 := rfl
      have h4 : (padS g n (padN (optL g n).length)).size % 4 = 0 := by omega
      rw [hput, hz, ht, h4]
      refine ⟨hp, fun h => ?_, fun _ => ⟨rfl, rfl, fun h => ?_, fun _ => ⟨rfl, rfl, fun h => ?_, fun _ => ?_⟩⟩⟩
      · cases h
      · have := of_decide_eq_true h; omega
      · cases h
      · rfl
  · refine calls_runO hS follows Try.func99 (by kernel_rfl) (by kernel_rfl) noL_ok (pt_run0 n g) ?_ (mem_row (hv [v])) rfl
    have hput : putS n g = ⟨⟨[]⟩⟩ := if_neg hz
    rw [ho, hput]
    refine ⟨hp, fun h => rfl, fun h => ?_⟩
    rw [decide_eq_false hz] at h; cases h
end Go.Proofs.Ytikiieclbeiicaa
