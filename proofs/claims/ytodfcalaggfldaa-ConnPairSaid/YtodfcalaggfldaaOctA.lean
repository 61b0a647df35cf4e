/- A slice of bytes that the call itself made (out of a string, by make or by append): what it holds, and what append does. -/
import Derived.Test.YtodfcalaggfldaaBase
import Derived.Deep.Upon
import Derived.Test.YtodfcalaggfldaaPlOct
namespace Go.Proofs.Ytodfcalaggfldaa
set_option linter.unusedVariables false
set_option linter.unusedSimpArgs false
open Go.RowKit

/-- v is a slice of the bytes l, in a block from base on, none of whose cells is frozen. -/
def Buf (w : World) (base : Nat) (v : Value) (l : List UInt8) : Prop :=
  ∃ g cap, v = .slice (some ⟨g, 0, none⟩) l.length cap ∧ base ≤ g ∧ g < w.heap.size ∧ l.length ≤ cap ∧ cap ≤ maxLen ∧
    (∀ j, j < cap → (w.cell? ⟨g, j, none⟩).isSome = true ∧ w.frozen? ⟨g, j, none⟩ = false) ∧ ∀ j (h : j < l.length), w.cell? ⟨g, j, none⟩ = some (.int .u8 (l[j].toNat : Int))
theorem Buf.below {w w1 : World} {base : Nat} {v : Value} {l : List UInt8} (h : Buf w base v l) (hb : Below w.heap.size w w1) : Buf w1 base v l := by
  obtain ⟨g, cap, hv, h1, h2, h3, h4, h5, h6⟩ := h
  refine ⟨g, cap, hv, h1, Nat.lt_of_lt_of_le h2 hb.size, h3, h4, fun j hj => ?_, fun j hj => ?_⟩
  · rw [hb.cell (p := ⟨g, j, none⟩) h2, hb.frozen (p := ⟨g, j, none⟩) h2]; exact h5 j hj
  · rw [hb.cell (p := ⟨g, j, none⟩) h2]; exact h6 j hj
theorem Buf.alloc {w : World} {base : Nat} {v : Value} {l : List UInt8} (h : Buf w base v l) (o : Obj) : Buf (w.alloc o) base v l :=
  h.below ((Below.refl _ _).alloc (Nat.le_refl _) o)
theorem Buf.drew {w : World} {base : Nat} {v : Value} {l : List UInt8} (h : Buf w base v l) : Buf w.drew base v l := h
theorem Buf.drewN {w : World} {base : Nat} {v : Value} {l : List UInt8} (h : Buf w base v l) (n : Nat) : Buf (w.drewN n) base v l := h
theorem Buf.mono {w : World} {base base' : Nat} {v : Value} {l : List UInt8} (h : Buf w base v l) (hb : base' ≤ base) : Buf w base' v l := by
  obtain ⟨g, cap, hv, h1, r⟩ := h
  exact ⟨g, cap, hv, Nat.le_trans hb h1, r⟩
theorem cell_marked (w : World) (C : Array Value) (t : TypeId) (a b j : Nat) : (w.alloc (.cells C t (a, b))).cell? ⟨w.heap.size, j, none⟩ = C[j]? := by
  have h0 := heap_alloc_new w (.cells C t (a, b))
  unfold World.cell?
  simp only [h0]
  rfl
theorem frozen_marked (w : World) (C : Array Value) (t : TypeId) (a b j : Nat) (h : j < a) : (w.alloc (.cells C t (a, b))).frozen? ⟨w.heap.size, j, none⟩ = false := by
  have h0 := heap_alloc_new w (.cells C t (a, b))
  unfold World.frozen?
  simp only [h0]
  simp; omega
/-- what a string is as a slice of bytes -/
theorem buf_of_string (w : World) (s : ByteArray) (e : TypeId) (hs : s.size ≤ maxLen) :
    Buf (w.drew.alloc (.cells (bytesRow s (grownCap w s.size 0 e)) e ((bytesRow s (grownCap w s.size 0 e)).size, (bytesRow s (grownCap w s.size 0 e)).size + 1))) w.heap.size
      (.slice (some ⟨w.heap.size, 0, none⟩) s.size (grownCap w s.size 0 e)) s.data.toList := by
  have hge := grownCap_ge w s.size 0 e
  have hle := grownCap_le_maxLen w s.size 0 e hs
  have hsz : s.data.size = s.size := rfl
  generalize grownCap w s.size 0 e = cap at *
  have hrow : (bytesRow s cap).size = cap := by simp [bytesRow, hsz]; omega
  refine ⟨w.heap.size, cap, by simp [hsz], Nat.le_refl _, by simp, by simpa [hsz] using hge, hle, fun j hj => ⟨?_, ?_⟩, fun j hj => ?_⟩
  · have := cell_marked w.drew (bytesRow s cap) e (bytesRow s cap).size ((bytesRow s cap).size + 1) j
    simp only [World.size_drew] at this
    rw [this, Array.getElem?_eq_getElem (by omega)]; rfl
  · have := frozen_marked w.drew (bytesRow s cap) e (bytesRow s cap).size ((bytesRow s cap).size + 1) j (by omega)
    simpa only [World.size_drew] using this
  · have := cell_marked w.drew (bytesRow s cap) e (bytesRow s cap).size ((bytesRow s cap).size + 1) j
    simp only [World.size_drew] at this
    have hj' : j < s.data.size := by simpa using hj
    rw [this]
    unfold bytesRow
    rw [Array.getElem?_append_left (by simpa using hj')]
    simp [hj']
    exact ⟨_, Array.getElem?_eq_getElem hj', rfl⟩
section
variable {P : Program}
/-- one byte more -/
theorem run_buf_append (w : World) (base : Nat) (t ty e : TypeId) (i : TypeInfo) (z : Value) (ht : P.underlying t = some (.slice e)) (hi : P.info? e = some i) (hz : i.zero = some z) (hsize : i.size = 1) (hby : i.bytes = 1) (hzs : z.cells.size = 1)
    (v : Value) (l : List UInt8) (hbuf : Buf w base v l) (a : Addr) (c : Nat) (x : UInt8) (hx : w.cell? a = some (.int .u8 (x.toNat : Int))) (hlen : l.length + 1 ≤ 140737488355328) (hbase : base ≤ w.heap.size) :
    ∃ v' w', (Builtin.append_ #[t, t] ty #[v, .slice (some a) 1 c]).run P w = .ok v' w' ∧ Buf w' base v' (l ++ [x]) ∧ Below base w w' := by
  obtain ⟨g, cap, rfl, h1, h2, h3, h4, h5, h6⟩ := hbuf
  have hnews : ∀ j u, [Value.int .u8 (x.toNat : Int)][j]? = some u → w.cell? (a.add j) = some u := by
    intro j u hj
    match j, hj with
    | 0, hj => simp at hj; subst hj; simpa [Addr.add] using hx
  have hone : ∀ u ∈ [Value.int .u8 (x.toNat : Int)], u.oneCell' = true := by intro u hu; simp at hu; subst hu; rfl
  by_cases hroom : l.length + 1 ≤ cap
  · refine ⟨_, _, run_append_room_cells (P := P) w t ty e i ht hi g 0 l.length cap a 1 c [.int .u8 (x.toNat : Int)] (by simp [hsize]) hnews hone hroom ?_ ?_, ?_, ?_⟩
    · intro j hj
      have : j = 0 := by simpa using hj
      subst this
      simpa [hsize] using (h5 l.length (by omega)).1
    · intro j hj
      have : j = 0 := by simpa using hj
      subst this
      simpa [hsize] using (h5 l.length (by omega)).2
    · rw [hsize]
      refine ⟨g, cap, by simp, h1, ?_, by simpa using hroom, h4, fun j hj => ⟨?_, ?_⟩, fun j hj => ?_⟩
      · simpa [World.setCells] using h2
      · obtain ⟨u, hu⟩ := Option.isSome_iff_exists.1 (h5 j hj).1
        simp only [World.setCells, Nat.zero_add, Nat.mul_one]
        by_cases e0 : j = l.length
        · subst e0; rw [World.cell?_setCell_same (w := w) (h := hu)]; rfl
        · rw [World.cell?_setCell_other (w := w) (h := fun h => e0 (by injection h with _ h2; exact h2.symm)), hu]; rfl
      · simp only [World.setCells]; rw [frozen?_set]; exact (h5 j hj).2
      · simp only [World.setCells, Nat.zero_add, Nat.mul_one]
        by_cases e0 : j = l.length
        · subst e0
          obtain ⟨u, hu⟩ := Option.isSome_iff_exists.1 (h5 l.length (by omega)).1
          rw [World.cell?_setCell_same (w := w) (h := hu)]
          simp
        · have hj' : j < l.length := by simp at hj; omega
          rw [World.cell?_setCell_other (w := w) (h := fun h => e0 (by injection h with _ h2; exact h2.symm)), h6 j hj']
          simp [List.getElem_append_left hj']
    · simp only [World.setCells]
      exact (Below.refl _ _).setCell h1 _
  · obtain ⟨v', w', hr, hown, hg⟩ := run_append_arg_grows (P := P) w t ty e i z 1 1 ht hi hz hsize hby hzs (by decide) ⟨g, 0, none⟩ l.length cap (l.map fun b => Value.int .u8 (b.toNat : Int)) (by simp)
      (by
        intro j u hj
        have hj' : j < l.length := by simpa using (List.getElem?_eq_some_iff.1 hj).1
        have := h6 j hj'
        simp [hj'] at hj
        subst hj
        simpa [Addr.add_lit] using this)
      a 1 c [.int .u8 (x.toNat : Int)] (by simp) hnews (by omega) (by unfold maxLen; omega) (by omega)
    refine ⟨v', w', hr, ?_, ⟨hg.os, hg.tape, hg.output, hg.size, fun k hk => hg.block k (by omega) (by simp)⟩⟩
    obtain ⟨hl, ⟨_, h0⟩ | ⟨g', cap', cur, rfl, hb', hgg, hnc, hcm, hcs, htake⟩⟩ := hown
    · omega
    · have hlt : g' < w'.heap.size := (Array.getElem?_eq_some_iff.1 hgg).1
      refine ⟨g', cap', by simp, by omega, hlt, by simpa using hnc, hcm, fun j hj => ⟨?_, ?_⟩, fun j hj => ?_⟩
      · rw [cell_of_row w' g' j cur e (0, 0) hgg, Array.getElem?_eq_getElem (by omega)]; rfl
      · simp [World.frozen?, hgg]
      · rw [cell_of_row w' g' j cur e (0, 0) hgg]
        have hj2 : j < l.length + 1 := by simpa using hj
        have : (cur.toList.take ((l.length + 1) * 1))[j]? = some (.int .u8 ((l ++ [x])[j].toNat : Int)) := by
          rw [htake]
          have : (List.map (fun b : UInt8 => Value.int .u8 (b.toNat : Int)) l ++ [Value.int .u8 (x.toNat : Int)]) = (l ++ [x]).map (fun b : UInt8 => Value.int .u8 (b.toNat : Int)) := by simp
          rw [this, List.getElem?_map, List.getElem?_eq_getElem hj]; rfl
        rw [List.getElem?_take] at this
        rw [if_pos (by omega)] at this
        simpa using this
theorem wpList_buf_append (w : World) {ops : Array Oper} {rest : List Oper} {o : Oper} {a : Act} {Q : Exit → Act → World → Prop} (hgd : o.guard = none) (s y : Operand) (t : TypeId)
    (ho : o.op = .call { callee := .builtin .append, args := #[s, y], argTypes := #[t, t] })
    (base : Nat) (e : TypeId) (i : TypeInfo) (z : Value) (ht : P.underlying t = some (.slice e)) (hi : P.info? e = some i) (hz : i.zero = some z) (hsize : i.size = 1) (hby : i.bytes = 1) (hzs : z.cells.size = 1)
    (v : Value) (l : List UInt8) (hs : a.eval s = v) (hbuf : Buf w base v l) (ad : Addr) (c : Nat) (x : UInt8) (hy : a.eval y = .slice (some ad) 1 c) (hx : w.cell? ad = some (.int .u8 (x.toNat : Int))) (hlen : l.length + 1 ≤ 140737488355328) (hbase : base ≤ w.heap.size)
    (h : ∀ v' w', Buf w' base v' (l ++ [x]) → Below base w w' → wpList P ops Q rest (a.put o.dst v') w') : wpList P ops Q (o :: rest) a w := by
  refine wpList_plain hgd fun K hK => ?_
  obtain ⟨v', w', hr, h1, h2⟩ := run_buf_append (P := P) w base t o.type e i z ht hi hz hsize hby hzs v l hbuf ad c x hx hlen hbase
  unfold Oper.wp execOp
  simp only [ho, resolve, invoke, builtin, Sem.run_bind, Sem.run_pure, Result.andThen_ok, List.map_toArray, List.map_cons, List.map_nil, hs, hy, hr]
  exact hK _ _ (h v' w' h1 h2)
/-- the bytes as a string -/
theorem run_buf_string (w : World) (base : Nat) (src dst e : TypeId) (v : Value) (l : List UInt8) (hs : P.underlying src = some (.slice e)) (he : P.underlying e = some (.int .u8)) (hd : P.underlying dst = some .string) (hbuf : Buf w base v l) :
    (convert src dst v).run P w = .ok (.string ⟨l.toArray⟩) w := by
  obtain ⟨g, cap, rfl, h1, h2, h3, h4, h5, h6⟩ := hbuf
  exact run_convert_bytes_back (P := P) w src dst e ⟨g, 0, none⟩ cap l hs he hd fun j hj => by rw [Addr.add_lit]; simpa using h6 j hj
end
end Go.Proofs.Ytodfcalaggfldaa
namespace Go.Proofs.Ytodfcalaggfldaa
set_option linter.unusedVariables false
set_option linter.unusedSimpArgs false
open Go.RowKit

theorem info_u8 : (Try.prog.info? 5).map (fun i => (i.zero, i.size, i.bytes)) = some (some (.int .u8 0), 1, 1) := by kernel_rfl
set_option maxRecDepth 100000 in
set_option maxHeartbeats 400000 in
theorem oct_put (s : ByteArray) (n : Int) (k : Nat) (hk : k ≤ 8) (hs : s.size ≤ 1099511627776) (w : World) :
    Calls Try.prog 96 #[.string s, .int .i64 n, .int .i64 k] w fun e w' => e = .returned (.string ⟨(s.data.toList ++ Oct.be (Oct.u64 n) k).toArray⟩) ∧ Below w.heap.size w w' := by
  obtain ⟨i0, hi, hz0, hz1, hz2⟩ := info_parts info_u8
  have hconv := fun W => run_bytes_of_string (P := Try.prog) W 9 119 5 s Try.underlying9 Try.underlying119 Try.underlying5
  go_enter Try.func96, Try.ntmps96
  go_wp2_with fail
  have hB := buf_of_string w s 5 (by unfold maxLen; omega)
  generalize grownCap w s.size 0 5 = cap0 at *
  go_loopw [7, 8] (fun v i wr => ∃ j : Nat, j ≤ k ∧ i = .int .i64 ((j : Int) - 1) ∧ Buf wr w.heap.size v (s.data.toList ++ (Oct.be (Oct.u64 n) k).take (k - j)) ∧ Below w.heap.size w wr)
    (fun _ i _ => (intOf i + 1).toNat)
  case atStart => exact ⟨k, Nat.le_refl _, rfl, by rw [Oct.be_none, List.append_nil]; exact hB, by (repeat' (first | (with_reducible exact Below.refl _ _) | (with_reducible refine below_alloc ?_ _) | (with_reducible refine Below.drew ?_) | (with_reducible refine below_drewN ?_ _) | (with_reducible refine Below.setCell ?_ ?_ _) | (with_reducible assumption) | (with_reducible refine below_of ?_ (by assumption)) | omega | (simp only [World.size_alloc, World.size_setCell, World.size_drew, size_drewN] at *; omega) | (simp; omega)))⟩
  case round =>
    obtain ⟨j, hj, rfl, hbuf, hbl⟩ := hrel
    clear hB
    have hbs := hbl.size
    cases j with
    | zero =>
      have hc := run_buf_string (P := Try.prog) wr w.heap.size 119 9 5 _ _ Try.underlying119 Try.underlying5 Try.underlying9 hbuf
      rw [Oct.be_full] at hc
      go_wp2
      go_ret
      exact ⟨rfl, hbl⟩
    | succ j =>
      have hval : (((j + 1 : Nat) : Int) - 1) = (j : Int) := by omega
      rw [hval]
      clear hval
      have hx0 : IntKind.u64.wrap n / 2 ^ (8 * j) % 256 = (((UInt8.ofNat (Oct.u64 n / 256 ^ j)).toNat : Nat) : Int) := by
        rw [Oct.byte_of, Oct.u64_cast]; rfl
      have HX := Lib.hid hx0
      have hsn := Oct.be_snoc (Oct.u64 n) k j (by omega)
      have HS := Lib.hid hsn
      have hsd : s.data.toList.length = s.size := by simp
      have hln : (s.data.toList ++ (Oct.be (Oct.u64 n) k).take (k - (j + 1))).length + 1 ≤ 140737488355328 := by
        rw [List.length_append, List.length_take, Oct.be_length, hsd]; omega
      have HL := Lib.hid hln
      clear hx0 hsn hsd hln
      go_wp2_with (at_builtin; refine wpList_buf_append _ rfl _ _ 119 rfl w.heap.size 5 i0 (.int .u8 0) Try.underlying119 hi hz0 hz1 hz2 rfl _ _ rfl (hbuf.alloc _) ⟨wr.heap.size, 0, none⟩ 1 (UInt8.ofNat (Oct.u64 n / 256 ^ j)) rfl (by rw [← HX.out]; simp) HL.out (by simp; omega) ?_; intro v' w1 hbuf' hb')
      rw [List.append_assoc, HS.out] at hbuf'
      go_roundw
      case rel => exact ⟨j, by omega, rfl, hbuf', by have := hbl.alloc (Nat.le_of_lt_succ (Nat.lt_succ_of_le hbs)) (.cells #[.int .u8 (IntKind.u64.wrap n / 2 ^ (8 * j) % 256)] 5); exact this.trans hb'⟩
      case measure => simp [intOf] <;> omega
/-- the same, for texts as lists and any size from 0 to 8 -/
theorem oct_putL (l : List UInt8) (n k : Int) (hk0 : 0 ≤ k) (hk : k ≤ 8) (hl : l.length ≤ 1099511627776) (w : World) :
    Calls Try.prog 96 #[.string ⟨l.toArray⟩, .int .i64 n, .int .i64 k] w fun e w' => e = .returned (.string ⟨(l ++ Oct.be (Oct.u64 n) k.toNat).toArray⟩) ∧ Below w.heap.size w w' := by
  obtain ⟨m, rfl⟩ := Int.eq_ofNat_of_zero_le hk0
  have := oct_put ⟨l.toArray⟩ n m (by omega) (by show l.toArray.size ≤ _; simpa using hl) w
  simpa using this
theorem octv_take (l : List UInt8) (k : Nat) (h : k < l.length) : Oct.val (l.take (k + 1)) = 256 * Oct.val (l.take k) + l[k].toNat := by
  unfold Oct.val
  rw [List.take_succ_eq_append_getElem h, List.foldl_append]; rfl
/-- the number that at most 8 bytes are -/
theorem oct_of (s : ByteArray) (hs : s.size ≤ maxLen) (w : World) : Calls Try.prog 130 #[.string s] w fun e w' => e = .returned (.int .i64 (wrap64 (((Oct.val s.data.toList) % 18446744073709551616 : Nat) : Int))) ∧ w = w' := by
  unfold maxLen at hs
  go_enter Try.func130, Try.ntmps130
  go_wp2
  go_loop [3, 7] (fun n i => ∃ k : Nat, k ≤ s.size ∧ i = .int .i64 k ∧ n = .int .u64 (((Oct.val (s.data.toList.take k)) % 18446744073709551616 : Nat) : Int)) (fun _ i => s.size - (intOf i).toNat)
  case atStart => exact ⟨0, Nat.zero_le _, rfl, rfl⟩
  case round =>
    obtain ⟨k, hk, rfl, rfl⟩ := hrel
    by_cases hlt : k < s.size
    · have hv := octv_take s.data.toList k (by simpa using hlt)
      have HV := Lib.hid hv
      clear hv
      generalize Oct.val (s.data.toList.take k) = v at *
      go_wp2
      go_round
      case rel =>
        refine ⟨k + 1, by omega, by go_num, ?_⟩
        rw [HV.out]
        have e : s.data.toList[k]'(by simpa using hlt) = s[k] := by simp; rfl
        rw [e]
        have hb : s[k].toNat < 256 := s[k].toNat_lt
        generalize s[k].toNat = b at *
        congr 1
        have := Oct.or_low (v % 18446744073709551616) b hb
        rw [show (((v % 18446744073709551616 : Nat)) : Int) = (v : Int) % 18446744073709551616 by omega] at this
        rw [this]
        omega
      case measure => simp [intOf]; omega
    · go_wp2
      go_ret
      exact ⟨ret_i (by rw [List.take_of_length_le (by simp; omega)]), rfl⟩
end Go.Proofs.Ytodfcalaggfldaa
namespace Go.Proofs.Ytodfcalaggfldaa
set_option linter.unusedVariables false
set_option linter.unusedSimpArgs false
open Go.RowKit

theorem one_byte (W : World) (x : UInt8) (X : Int) (h : X = ((x.toNat : Nat) : Int)) : (convert 119 9 (.slice (some ⟨W.heap.size, 0, none⟩) 1 1)).run Try.prog (W.alloc (.cells #[.int .u8 X] 5)) = .ok (.string ⟨#[x]⟩) (W.alloc (.cells #[.int .u8 X] 5)) :=
  run_convert_bytes_back (P := Try.prog) (W.alloc (.cells #[.int .u8 X] 5)) 119 9 5 ⟨W.heap.size, 0, none⟩ 1 [x] Try.underlying119 Try.underlying5 Try.underlying9
    (fun j hj => by
      have : j = 0 := by simpa using hj
      subst this
      simp [Addr.add, h])
set_option maxRecDepth 100000 in
set_option maxHeartbeats 400000 in
theorem ref01_put (s : ByteArray) (u : Nat) (hu : u < 18446744073709551616) (k : Nat) (hk : k ≤ 8) (hs : s.size ≤ 1099511627776) (w : World) :
    Calls Try.prog 103 #[.string s, .int .u64 u, .int .i64 k] w fun e w' => e = .returned (.string ⟨(s.data.toList ++ Oct.be u k).toArray⟩) ∧ Below w.heap.size w w' := by
  go_enter Try.func103, Try.ntmps103
  go_wp2_with fail
  go_loopw [1, 7, 8] (fun n t i wr => ∃ j : Nat, j ≤ k ∧ i = .int .i64 j ∧ n = .int .u64 ((u / 256 ^ j : Nat) : Int) ∧ t = .string ⟨(Oct.be u j).toArray⟩ ∧ Below w.heap.size w wr)
    (fun _ _ i _ => k - (intOf i).toNat)
  case atStart => exact ⟨0, Nat.zero_le _, rfl, by simp, rfl, Below.refl _ _⟩
  case round =>
    obtain ⟨j, hj, rfl, rfl, rfl, hbl⟩ := hrel
    have hbs := hbl.size
    by_cases hlt : j < k
    · have h1 : (j : Int) < (k : Int) := by omega
      have h8 : (j : Int) < 8 := by omega
      have hq : u / 256 ^ j < 18446744073709551616 := Nat.lt_of_le_of_lt (Nat.div_le_self _ _) hu
      generalize hqe : u / 256 ^ j = q at *
      have HQ := Lib.hid hqe
      clear hqe
      have hcv := fun W : World => one_byte W (UInt8.ofNat q) (((q : Nat) : Int) % 256) (by rw [UInt8.toNat_ofNat']; omega)
      have hbe := Oct.be_length u j
      have hl1 : ¬ 9223372036854775807 < 1 + (Oct.be u j).length := by omega
      have hl2 : 1 + (Oct.be u j).length ≤ 9223372036854775807 := by omega
      clear hbe
      go_wp2
      go_roundw
      case rel =>
        refine ⟨j + 1, by omega, by go_num, ?_, ?_, by (repeat' (first | (with_reducible exact Below.refl _ _) | (with_reducible refine below_alloc ?_ _) | (with_reducible refine Below.drew ?_) | (with_reducible refine below_drewN ?_ _) | (with_reducible refine Below.setCell ?_ ?_ _) | (with_reducible assumption) | (with_reducible refine below_of ?_ (by assumption)) | omega | (simp only [World.size_alloc, World.size_setCell, World.size_drew, size_drewN] at *; omega) | (simp; omega)))⟩
        · rw [Nat.pow_succ, ← Nat.div_div_eq_div_mul, HQ.out]; rfl
        · show Value.string ⟨_⟩ = Value.string ⟨_⟩
          rw [show Oct.be u (j + 1) = UInt8.ofNat q :: Oct.be u j by rw [← HQ.out]; rfl]
          simp
      case measure => simp [intOf]; omega
    · obtain rfl : j = k := by omega
      have hbe := Oct.be_length u j
      have hl2 : s.size + (Oct.be u j).length ≤ 9223372036854775807 := by omega
      clear hbe
      go_wp2
      go_ret
      refine ⟨ret_s ?_, hbl⟩
      exact ByteArray.ext (by simp)
theorem ref01_putL (l : List UInt8) (u k : Int) (hu0 : 0 ≤ u) (hu : u < 18446744073709551616) (hk0 : 0 ≤ k) (hk : k ≤ 8) (hl : l.length ≤ 1099511627776) (w : World) :
    Calls Try.prog 103 #[.string ⟨l.toArray⟩, .int .u64 u, .int .i64 k] w fun e w' => e = .returned (.string ⟨(l ++ Oct.be u.toNat k.toNat).toArray⟩) ∧ Below w.heap.size w w' := by
  obtain ⟨m, rfl⟩ := Int.eq_ofNat_of_zero_le hk0
  obtain ⟨v, rfl⟩ := Int.eq_ofNat_of_zero_le hu0
  have := ref01_put ⟨l.toArray⟩ v (by omega) m (by omega) (by show l.toArray.size ≤ _; simpa using hl) w
  simpa using this
theorem val_take (l : List UInt8) (k : Nat) (h : k < l.length) : Oct.val (l.take (k + 1)) = 256 * Oct.val (l.take k) + l[k].toNat := by
  unfold Oct.val
  rw [List.take_succ_eq_append_getElem h, List.foldl_append]; rfl
end Go.Proofs.Ytodfcalaggfldaa
namespace Go.Proofs.Ytodfcalaggfldaa
set_option linter.unusedVariables false
set_option linter.unusedSimpArgs false
open Go.RowKit

end Go.Proofs.Ytodfcalaggfldaa
