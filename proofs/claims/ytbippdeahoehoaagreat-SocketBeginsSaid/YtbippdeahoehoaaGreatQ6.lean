/- Parts of a proof: OpCa. No conditions. -/
import Derived.Test.YtbippdeahoehoaaGreatQ5
import Derived.Test.YtbippdeahoehoaaGreatShelfB
import Derived.Lib.FrozenHead2
import Derived.Lib.OthersKept
set_option linter.unusedVariables false
set_option linter.unusedSimpArgs false
namespace Go.Proofs.YtbippdeahoehoaaGreat
open Go.RowKit
abbrev IsBld (B b : Nat) (l : List UInt8) (w : World) : Prop := Lib.IsBuilderF 474 5 B b (Lib.byteCells l) w
theorem bld_size : (Tryz.prog.info? 474).map (·.size) = some 2 := by kernel_rfl
theorem bld_lies : liesAt Tryz.prog Tryz.prog.depth 474 (2 / Tryz.prog.cellsOf 474) 0 474 1 = true := by kernel_rfl
set_option maxRecDepth 100000 in
set_option maxHeartbeats 1000000 in
theorem bld_check (B b : Nat) (bs : List Value) (w : World) (h : Lib.IsBuilderF 474 5 B b bs w) : Calls Tryz.prog 404 #[.pointer (some ⟨b, 0, none⟩)] w fun e w' => e = .returned (.tuple #[]) ∧ Lib.BuilderAtF 474 5 B b (.pointer (some ⟨b, 0, none⟩)) bs w' ∧ Below B w w' ∧ Lib.OthersKept 5 (some b) w w' := by
  obtain ⟨j, hj, hjs⟩ := Option.map_eq_some_iff.1 bld_size
  rcases h with h | h
  · have c0 := h.cell0
    have sh := h.shape
    have f0 := h.frozen0
    go_enter Tryz.func404, Tryz.ntmps404
    go_wp2
    rw [Lib.run_to_unsafe w ⟨b, 0, none⟩ Tryz.underlying472 Tryz.underlying562 hj (by rw [hjs]; decide) sh (Nat.zero_lt_succ 1)]
    simp only [Result.andThen]
    rw [Oper.upon_value]
    go_wp2
    rw [run_callFunc_extern Tryz.func434 (by kernel_rfl) (by kernel_rfl) (by kernel_rfl) (e := Extern.AbiNoEscape.same) (by kernel_rfl)]
    rw [Lib.run_noEscape]
    simp only [Result.andThen]
    rw [Oper.upon_value]
    go_wp2
    rw [Lib.run_from_unsafe w ⟨b, 0, none⟩ Tryz.underlying562 Tryz.underlying472 hj sh bld_lies]
    simp only [Result.andThen]
    rw [Oper.upon_value]
    go_wp2
    go_end0
    exact ⟨rfl, h.used _, (Below.refl B w).setCell (p := ⟨b, 0, none⟩) h.1 _, (Lib.OthersKept.refl _ _ w).setCell ⟨b, 0, none⟩ rfl _⟩
  · have c0 := h.cell0
    go_enter Tryz.func404, Tryz.ntmps404
    go_wp2
    rw [Lib.run_neq_ptr_same w _ Tryz.underlying472 hj]
    go_wp2
    go_end0
    exact ⟨rfl, h, Below.refl B _, Lib.OthersKept.refl _ _ _⟩
set_option maxRecDepth 100000 in
set_option maxHeartbeats 2000000 in
theorem bld_byte (B b : Nat) (l : List UInt8) (x : UInt8) (c : Int) (hx : c = (x.toNat : Int)) (w : World) (h : IsBld B b l w) (hl : l.length ≤ 1000000000) (hw : B ≤ w.heap.size) : Calls Tryz.prog 330 #[.pointer (some ⟨b, 0, none⟩), .int .u8 c] w fun e w' => e = .returned .nilIface ∧ IsBld B b (l ++ [x]) w' ∧ Below B w w' ∧ Lib.OthersKept 5 (some b) w w' := by
  subst hx
  obtain ⟨i0, hi, hz0, hz1, hz2⟩ := info_parts info_u8
  go_enter Tryz.func330, Tryz.ntmps330
  go_wp2_with (go_at_call 404; refine (bld_check B b _ _ h).mono ?_)
  rintro e w1 ⟨rfl, h1, hb1, hk1⟩
  obtain ⟨hB, v, hbk, hown, hne⟩ := h1
  have c0 : w1.cell? ⟨b, 0, none⟩ = some (.pointer (some ⟨b, 0, none⟩)) := by rw [Lib.cell_of_heap hbk]; rfl
  have c1 : w1.cell? ⟨b, 1, none⟩ = some v := by rw [Lib.cell_of_heap hbk]; rfl
  have hlb : (Lib.byteCells l).length = l.length := Lib.byteCells_length l
  have hs1 := hb1.size
  go_wp2_with (at_builtin; refine wpList_append_ownF _ rfl _ _ 346 rfl B 5 i0 (.int .u8 0) 1 1 Tryz.underlying346 hi hz0 hz1 hz2 rfl (by decide) _ _ _ rfl (hown.alloc _) ⟨w1.heap.size, 0, none⟩ 1 1 [.int .u8 (x.toNat : Int)] rfl rfl ?c1 ?c2 ?c3 ?c4 ?c5 ?_)
  case c1 =>
    intro j u hj
    match j, hj with
    | 0, hj => simp at hj; subst hj; simp [Addr.add]
  case c2 => intro u hu; simp at hu; subst hu; rfl
  case c3 => unfold maxLen; omega
  case c4 => omega
  case c5 => simp; omega
  intro v' w2 hown' hgrow _
  have hlt : b < w1.heap.size := (Array.getElem?_eq_some_iff.1 hbk).1
  have hb2 : w2.heap[b]? = some (.cells #[.pointer (some ⟨b, 0, none⟩), v] 474 (0, 0)) := by
    rw [hgrow.block b (by simp; omega) (fun e => hne e.symm), Lib.alloc_old w1 _ b hlt]
    exact hbk
  have d1 : w2.cell? ⟨b, 1, none⟩ = some v := by rw [Lib.cell_of_heap hb2]; rfl
  have f1 : w2.frozen? ⟨b, 1, none⟩ = false := Lib.frozen_of_heap hb2 1
  obtain ⟨ao, m, cap, rfl⟩ : ∃ ao m cap, v' = .slice ao m cap := by
    rcases hown'.2 with ⟨hv, _⟩ | ⟨g, cap, cur, fz, hv, _⟩
    · exact ⟨_, _, _, hv⟩
    · exact ⟨_, _, _, hv⟩
  go_wp2
  go_ret
  have e : Lib.byteCells (l ++ [x]) = Lib.byteCells l ++ [.int .u8 (x.toNat : Int)] := by rw [Lib.byteCells_append]; rfl
  refine ⟨rfl, ?_, ?_, ((hk1.alloc _).grown hgrow (Lib.ownsRowF_kind (hown.alloc _))).setCell ⟨b, 1, none⟩ rfl _⟩
  · show Lib.IsBuilderF _ _ _ _ _ _
    rw [e]
    exact .inr (Lib.BuilderAtF.put (T := 474) (e := 5) hB hb2 (bs' := Lib.byteCells l ++ [.int .u8 (x.toNat : Int)]) (by rw [List.length_append, hlb]; simpa using hown') (by decide))
  · exact ((hb1.alloc (by omega) _).grown hgrow (by simp; omega) (fun k hk => (hown.lt k hk).1)).setCell (p := ⟨b, 1, none⟩) hB _
set_option maxRecDepth 100000 in
set_option maxHeartbeats 2000000 in
theorem bld_text (B b : Nat) (l : List UInt8) (s : ByteArray) (w : World) (h : IsBld B b l w) (hl : l.length ≤ 1000000000) (hs : s.size ≤ 1000000000) (hw : B ≤ w.heap.size) : Calls Tryz.prog 346 #[.pointer (some ⟨b, 0, none⟩), .string s] w fun e w' => e = .returned (.tuple #[.int .i64 s.size, .nilIface]) ∧ IsBld B b (l ++ s.data.toList) w' ∧ Below B w w' ∧ Lib.OthersKept 5 (some b) w w' := by
  obtain ⟨i0, hi, hz0, hz1, hz2⟩ := info_parts info_u8
  go_enter Tryz.func346, Tryz.ntmps346
  go_wp2_with (go_at_call 404; refine (bld_check B b _ _ h).mono ?_)
  rintro e w1 ⟨rfl, h1, hb1, hk1⟩
  obtain ⟨hB, v, hbk, hown, hne⟩ := h1
  have c0 : w1.cell? ⟨b, 0, none⟩ = some (.pointer (some ⟨b, 0, none⟩)) := by rw [Lib.cell_of_heap hbk]; rfl
  have c1 : w1.cell? ⟨b, 1, none⟩ = some v := by rw [Lib.cell_of_heap hbk]; rfl
  have hlb : (Lib.byteCells l).length = l.length := Lib.byteCells_length l
  have hs1 := hb1.size
  go_wp2_with (at_builtin; refine Lib.wpList_append_own_stringF _ rfl _ _ 346 9 rfl B 5 i0 Tryz.underlying346 Tryz.underlying9 hi hz0 hz1 hz2 _ _ _ rfl hown s rfl ?c3 ?c4 ?c5 ?_)
  case c3 => unfold maxLen; omega
  case c4 => omega
  case c5 => omega
  intro v' w2 hown' hgrow _
  have hlt : b < w1.heap.size := (Array.getElem?_eq_some_iff.1 hbk).1
  have hb2 : w2.heap[b]? = some (.cells #[.pointer (some ⟨b, 0, none⟩), v] 474 (0, 0)) := by
    rw [hgrow.block b hlt (fun e => hne e.symm)]
    exact hbk
  have d1 : w2.cell? ⟨b, 1, none⟩ = some v := by rw [Lib.cell_of_heap hb2]; rfl
  have f1 : w2.frozen? ⟨b, 1, none⟩ = false := Lib.frozen_of_heap hb2 1
  obtain ⟨ao, m, cap, rfl⟩ : ∃ ao m cap, v' = .slice ao m cap := by
    rcases hown'.2 with ⟨hv, _⟩ | ⟨g, cap, cur, fz, hv, _⟩
    · exact ⟨_, _, _, hv⟩
    · exact ⟨_, _, _, hv⟩
  go_wp2
  go_ret2
  have e : Lib.byteCells (l ++ s.data.toList) = Lib.byteCells l ++ Lib.strCells s := by rw [Lib.byteCells_append]; rfl
  refine ⟨rfl, ?_, ?_, (hk1.grown hgrow (Lib.ownsRowF_kind hown)).setCell ⟨b, 1, none⟩ rfl _⟩
  · show Lib.IsBuilderF _ _ _ _ _ _
    rw [e]
    exact .inr (Lib.BuilderAtF.put (T := 474) (e := 5) hB hb2 (bs' := Lib.byteCells l ++ Lib.strCells s) (by rw [List.length_append, Lib.strCells_length, hlb]; exact hown') (by decide))
  · exact (hb1.grown hgrow (by omega) (fun k hk => (hown.lt k hk).1)).setCell (p := ⟨b, 1, none⟩) hB _
end Go.Proofs.YtbippdeahoehoaaGreat
namespace Go.Proofs.YtbippdeahoehoaaGreat
open Go.RowKit Sym Go.ChangeShapes Go.WideShapes Go.ChangeMaps
set_option maxRecDepth 100000 in
theorem optsize_run (k : Int) (v : ByteArray) : runV Tryz.prog (onlyS Tryz.prog noS) noL Tryz.f345 [.agg #[.int .i64 k, .string v]] = .ite (decide (k ≤ (31 : Int))) (.leaf (Value.int IntKind.i64 1)) (.leaf (Value.int IntKind.i64 (IntKind.i64.wrap ((2 : Int) + (↑v.size : Int))))) := by kernel_rfl
theorem opt_size (o : Op) (h : o.val.size ≤ 1000000) (w : World) : Calls Tryz.prog 345 #[.agg #[.int .i64 o.kind, .string o.val]] w fun e w' => e = .returned (.int .i64 (sizeO o)) ∧ Below w.heap.size w w' := by
  refine calls_runV (onlyS_ok noS_ok) follows Tryz.func345 (by kernel_rfl) (by kernel_rfl) noL_ok (optsize_run o.kind o.val) ?_ w
  have hw : IntKind.i64.wrap (2 + (o.val.size : Int)) = 2 + (o.val.size : Int) := w64 _ (by omega) (by omega)
  unfold sizeO
  by_cases hk : o.kind ≤ 31
  · simp [T.ok, hk]
  · simp [T.ok, hk, hw]
theorem two_cells {w : World} {a : Addr} {k : Nat} {x y : Value} (h0 : w.cell? (a.add (k * 2 + 0)) = some x) (h1 : w.cell? (a.add (k * 2 + 1)) = some y) : w.cell? (a.add (k * 2)) = some x ∧ w.cell? ⟨(a.add (k * 2)).block, (a.add (k * 2)).off + 1, none⟩ = some y ∧ (a.add (k * 2)).block < w.heap.size := by
  have hb := lt_of_cell h0
  have hs := World.cell?_spot h0
  refine ⟨h0, ?_, hb⟩
  rw [← h1]
  congr 1
  obtain ⟨bb, oo, ss⟩ := a
  by_cases hk : k = 0
  · subst hk
    have : ss = none := by simpa [Addr.add] using hs
    subst this
    simp [Addr.add]
  · have e1 : ¬ k * 2 = 0 := by omega
    have e2 : ¬ k * 2 + 1 = 0 := by omega
    simp [Addr.add, e1, hk] at hs ⊢
    omega
theorem optL_le {n : Nat} {g : Nat → Op} (h : ∀ i, i < n → rightO (g i) = 0) : ∀ k, k ≤ n → (optL g k).length ≤ 255 * k
  | 0, _ => Nat.le_refl _
  | k + 1, hk => by
    have := optL_le h k (by omega)
    have h1 := bytesO_len (h k (by omega))
    have h2 := rightO_ok (h k (by omega))
    have h3 := sizeO_bd (g k)
    simp only [optL, List.length_append]
    omega
theorem bld_below {B b : Nat} {l : List UInt8} {w w' : World} (h : IsBld B b l w) (hb : Below w.heap.size w w') : IsBld B b l w' := by
  have one : ∀ p, Lib.BuilderAtF 474 5 B b p (Lib.byteCells l) w → Lib.BuilderAtF 474 5 B b p (Lib.byteCells l) w' := by
    rintro p ⟨h1, v, h2, h3, h4⟩
    refine ⟨h1, v, (hb.block b (Array.getElem?_eq_some_iff.1 h2).1).trans h2, ⟨h3.1, ?_⟩, h4⟩
    rcases h3.2 with h5 | ⟨g, cap, cur, fz, e1, e2, e3, e4⟩
    · exact .inl h5
    · exact .inr ⟨g, cap, cur, fz, e1, e2, (hb.block g (Array.getElem?_eq_some_iff.1 e3).1).trans e3, e4⟩
  rcases h with h | h
  · exact .inl (one _ h)
  · exact .inr (one _ h)
theorem bld_lt {B b : Nat} {l : List UInt8} {w : World} (h : IsBld B b l w) : b < w.heap.size := by
  rcases h with h | h <;> exact h.lt
def bldLen (w : World) (b : Nat) : Nat := match w.cell? ⟨b, 1, none⟩ with | some (.slice _ n _) => n | _ => 0
theorem bld_len {B b : Nat} {l : List UInt8} {w : World} (h : IsBld B b l w) : bldLen w b = l.length := by
  have one : ∀ p, Lib.BuilderAtF 474 5 B b p (Lib.byteCells l) w → bldLen w b = l.length := by
    rintro p ⟨h1, v, h2, h3, h4⟩
    have c1 : w.cell? ⟨b, 1, none⟩ = some v := by rw [Lib.cell_of_heap h2]; rfl
    have hl : (Lib.byteCells l).length = l.length := Lib.byteCells_length l
    unfold bldLen
    rw [c1]
    rcases h3.2 with ⟨rfl, h5⟩ | ⟨g, cap, cur, fz, rfl, e2⟩
    · show 0 = _; omega
    · exact hl
  rcases h with h | h <;> exact one _ h
def putS (n : Nat) (g : Nat → Op) : ByteArray := if chkO n g = 0 then ⟨⟨optP n g⟩⟩ else ⟨⟨[]⟩⟩
set_option maxRecDepth 100000 in
set_option maxHeartbeats 2000000 in
theorem opts_PutH (n : Nat) (g : Nat → Op) (hf : Few n g) (hchk : ∀ (v : Value) (w : World), (∀ B, BlkSat B w v (.row n 2 fun i j => (g i).c j)) → Calls Tryz.prog 158 #[v] w fun e w' => e = .returned (.int .i64 (chkO n g)) ∧ Below w.heap.size w w') (v : Value) (w : World) (hv : ∀ B, BlkSat B w v (.row n 2 fun i j => (g i).c j)) : Calls Tryz.prog 251 #[v] w fun e w' => e = .returned (.tuple #[.string (putS n g), .int .i64 (chkO n g)]) ∧ Below w.heap.size w w' := by
  obtain ⟨p, cap, rfl, hc1, hc2, hc3⟩ := hv [v]
  have hf' := hf
  obtain ⟨f1, f2⟩ := hf'
  by_cases hz : chkO n g = 0
  · obtain ⟨hr, hs⟩ := chkO_ok hz
    have hput : putS n g = ⟨⟨optP n g⟩⟩ := if_pos hz
    have hn : n ≤ 1000 := f1
    have hch := fun v w hv => hchk v w hv
    rw [hz] at hch
    go_enter Tryz.func251, Tryz.ntmps251
    go_wp2_with (go_at_call 158; refine (hch _ _ hv).mono ?_; rintro e w1 ⟨rfl, hb1⟩)
    go_loopw [15] (fun i wr => ∃ k : Nat, k ≤ n ∧ i = .int .i64 k ∧ IsBld w1.heap.size w1.heap.size (optL g k) wr ∧ Below w1.heap.size w1 wr) (fun i _ => n - (intOf i).toNat)
    case atStart => exact ⟨0, Nat.zero_le _, rfl, Lib.IsBuilderF.of (Lib.fresh_isBuilder 474 5 w1), (Below.refl _ w1).alloc (Nat.le_refl _) _⟩
    case round =>
      obtain ⟨k, hk, rfl, hI, hbl⟩ := hrel
      have hbs := hbl.size
      by_cases hlt : k < n
      · obtain ⟨a, rfl, h0⟩ := hc3 k 0 hlt (by decide)
        obtain ⟨a', ha', h1⟩ := hc3 k 1 hlt (by decide)
        obtain rfl : a = a' := by simpa using ha'
        obtain ⟨r0, r1, rb⟩ := two_cells h0 h1
        have g0 := ((hb1.trans (hbl.mono hb1.size)).cell (p := a.add (k * 2)) rb).trans r0
        have g1 := ((hb1.trans (hbl.mono hb1.size)).cell (p := ⟨(a.add (k * 2)).block, (a.add (k * 2)).off + 1, none⟩) rb).trans r1
        obtain ⟨q1, q2, q3, q4⟩ := rightO_ok (hr k hlt)
        have hlen := optL_le hr k (by omega)
        simp only [Op.c] at g0 g1
        clear h0 h1 r0 r1 ha'
        have hbw := bld_lt hI
        go_wp2_with (go_at_call 330; refine (bld_byte w1.heap.size w1.heap.size (optL g k) (UInt8.ofNat (g k).kind.toNat) _ (by rw [UInt8.toNat_ofNat']; omega) _ (Lib.IsBuilderF.alloc hI _) (by omega) (by simp; omega)).mono ?_)
        rintro e w2 ⟨rfl, hI2, hb2, hk2⟩
        have ho : w2.heap[wr.heap.size]? = some (.cells #[.int .i64 (g k).kind, .string (g k).val] 229 (0, 0)) := hk2 wr.heap.size _ (by first | exact Lib.heap_alloc_new _ _ | exact heap_alloc_new _ _) (by simp; omega) (fun c fz h => by cases h)
        have o0 : w2.cell? ⟨wr.heap.size, 0, none⟩ = some (.int .i64 (g k).kind) := by rw [Lib.cell_of_heap ho]; rfl
        have o1 : w2.cell? ⟨wr.heap.size, 1, none⟩ = some (.string (g k).val) := by rw [Lib.cell_of_heap ho]; rfl
        have hbl2 := (below_alloc hbl (.cells #[.int .i64 (g k).kind, .string (g k).val] 229)).trans hb2
        have hs2 := hbl2.size
        by_cases h31 : (g k).kind ≤ 31
        · have eb : bytesO (g k) = [UInt8.ofNat (g k).kind.toNat] := by unfold bytesO; rw [if_pos h31]
          go_wp2
          go_roundw
          case rel =>
            refine ⟨k + 1, by omega, by go_num, ?_, hbl2⟩
            simp only [optL]
            rw [eb]
            exact hI2
          case measure => simp [intOf]; omega
        · have eb : bytesO (g k) = UInt8.ofNat (g k).kind.toNat :: UInt8.ofNat ((g k).val.size + 2) :: (g k).val.data.toList := by unfold bytesO; rw [if_neg h31]
          have eS : sizeO (g k) = ((g k).val.size + 2 : Nat) := by unfold sizeO; rw [if_neg h31]; omega
          have hsz := fun w => opt_size (g k) (by omega) w
          rw [eS] at hsz
          generalize hq : (g k).val.size + 2 = q at hsz eb
          have hq1 : (q : Int) ≤ 255 := by omega
          have hq2 : 0 ≤ (q : Int) := by omega
          go_wp2_with (go_at_call 345; refine (hsz _).mono ?_)
          rintro e w3 ⟨rfl, hb3⟩
          have hI3 := bld_below hI2 hb3
          have hs3 := hb3.size
          have ho3 : w3.heap[wr.heap.size]? = _ := (hb3.block _ (Array.getElem?_eq_some_iff.1 ho).1).trans ho
          go_wp2_with (go_at_call 330; refine (bld_byte w1.heap.size w1.heap.size _ (UInt8.ofNat q) _ (by rw [UInt8.toNat_ofNat']; omega) _ hI3 (by simp; omega) (by omega)).mono ?_)
          rintro e w4 ⟨rfl, hI4, hb4, hk4⟩
          have hs4 := hb4.size
          have ho4 : w4.heap[wr.heap.size]? = some (.cells #[.int .i64 (g k).kind, .string (g k).val] 229 (0, 0)) := hk4 wr.heap.size _ ho3 (by simp; omega) (fun c fz h => by cases h)
          have n1 : w4.cell? ⟨wr.heap.size, 1, none⟩ = some (.string (g k).val) := by rw [Lib.cell_of_heap ho4]; rfl
          go_wp2_with (go_at_call 346; refine (bld_text w1.heap.size w1.heap.size _ (g k).val _ hI4 (by simp; omega) (by omega) (by omega)).mono ?_)
          rintro e w5 ⟨rfl, hI5, hb5, hk5⟩
          go_wp2
          go_roundw
          case rel =>
            refine ⟨k + 1, by omega, by go_num, ?_, ((hbl2.trans (hb3.mono hs2)).trans hb4).trans hb5⟩
            simp only [optL]
            rw [eb]
            simpa using hI5
          case measure => simp [intOf]; omega
      · obtain rfl : k = n := by omega
        clear hc3
        have hlen := optL_le hr k (Nat.le_refl _)
        have hpad : padN (optL g k).length < 4 := by unfold padN; omega
        have hbw := bld_lt hI
        go_wp2
        go_loopw [] (fun wr => ∃ m : Nat, m ≤ padN (optL g k).length ∧ IsBld w1.heap.size w1.heap.size (optL g k ++ List.replicate m 0) wr ∧ Below w1.heap.size w1 wr) (fun wr => 1000000 - bldLen wr w1.heap.size)
        case atStart => exact ⟨0, Nat.zero_le _, by simpa using hI, hbl⟩
        case round =>
          clear hI hbl hbw hbs
          obtain ⟨m, hm, hI, hbl⟩ := hrel
          have hbs := hbl.size
          have hq : (optL g k ++ List.replicate m 0).length = (optL g k).length + m := by simp
          have hln := bld_len hI
          rw [hq] at hln
          have hLen := Tryz.Builder_Len_f w1.heap.size w1.heap.size _ wr hI
          rw [Lib.byteCells_length, hq] at hLen
          by_cases h4 : ((optL g k).length + m) % 4 = 0
          · have hmm : m = padN (optL g k).length := by unfold padN at hm ⊢; omega
            have ht : ((((optL g k).length + m : Nat) : Int)).tmod 4 = 0 := by rw [show (4 : Int) = ((4 : Nat) : Int) from rfl, ← Int.ofNat_tmod]; omega
            go_wp2_with (go_at_call 347; refine hLen.mono ?_; rintro e w2 ⟨rfl, rfl⟩)
            go_wp2_with (go_at_call 331; refine (Tryz.Builder_String_any_f w1.heap.size w1.heap.size _ _ hI hbs).mono ?_)
            rintro e w3 ⟨rfl, hI3, hb3⟩
            go_wp2
            go_ret2
            rw [hput, hz]
            subst hmm
            exact ⟨rfl, hb1.trans ((hbl.trans hb3).mono hb1.size)⟩
          · have ht : ¬ ((((optL g k).length + m : Nat) : Int)).tmod 4 = 0 := by rw [show (4 : Int) = ((4 : Nat) : Int) from rfl, ← Int.ofNat_tmod]; omega
            go_wp2_with (go_at_call 347; refine hLen.mono ?_; rintro e w2 ⟨rfl, rfl⟩)
            go_wp2_with (go_at_call 330; refine (bld_byte w1.heap.size w1.heap.size _ 0 _ rfl _ hI (by omega) hbs).mono ?_)
            rintro e w3 ⟨rfl, hI3, hb3, hk3⟩
            have hln3 := bld_len hI3
            rw [List.length_append, hq] at hln3
            go_wp2
            go_roundw
            case rel =>
              refine ⟨m + 1, by unfold padN at hm ⊢; omega, ?_, hbl.trans hb3⟩
              rw [List.replicate_succ', ← List.append_assoc]
              exact hI3
            case measure => simp at hln3; omega
  · have hput : putS n g = ⟨⟨[]⟩⟩ := if_neg hz
    have hch := fun v w hv => hchk v w hv
    obtain ⟨c, hc⟩ : ∃ c, c = chkO n g := ⟨_, rfl⟩
    rw [← hc] at hz hch
    have HC := Lib.hid hc
    clear hc
    go_enter Tryz.func251, Tryz.ntmps251
    go_wp2_with (go_at_call 158; refine (hch _ _ hv).mono ?_; rintro e w1 ⟨rfl, hb1⟩)
    go_ret2
    rw [hput, ← HC.out]
    exact ⟨rfl, hb1⟩
end Go.Proofs.YtbippdeahoehoaaGreat
