/- Parts of a proof: OctA, TabOct, SymH, PlA, Strs, ShaT, ShaS, ShaW, ShaB, OpA, LsA, HdA, HdC, Ref09, PlNu, HdB, CuA, InA, PaA, AnT, Facts. No conditions. -/
import Derived.Test.YtbippdeahoehoaaGreatQ2
import Derived.Deep.Upon
import Derived.Deep.Slices
import Derived.Lib.AppendZeros
import Derived.OwnWalk
import Derived.PlainAid
import Derived.Deep.RegionHeld3
import Derived.Test.YtbippdeahoehoaaGreatRows
import Derived.JoinedOf
import Derived.KernelRfl
set_option linter.unusedVariables false
set_option linter.unusedSimpArgs false
namespace Go.Proofs.YtbippdeahoehoaaGreat
open Go.RowKit
def Buf (w : World) (base : Nat) (v : Value) (l : List UInt8) : Prop :=
  ∃ g cap, v = .slice (some ⟨g, 0, none⟩) l.length cap ∧ base ≤ g ∧ g < w.heap.size ∧ l.length ≤ cap ∧ cap ≤ maxLen ∧
    (∀ j, j < cap → (w.cell? ⟨g, j, none⟩).isSome = true ∧ w.frozen? ⟨g, j, none⟩ = false) ∧ ∀ j (h : j < l.length), w.cell? ⟨g, j, none⟩ = some (.int .u8 (l[j].toNat : Int))
theorem Buf.below {w w1 : World} {base : Nat} {v : Value} {l : List UInt8} (h : Buf w base v l) (hb : Below w.heap.size w w1) : Buf w1 base v l := by
  obtain ⟨g, cap, hv, h1, h2, h3, h4, h5, h6⟩ := h
  refine ⟨g, cap, hv, h1, Nat.lt_of_lt_of_le h2 hb.size, h3, h4, fun j hj => ?_, fun j hj => ?_⟩
  · rw [hb.cell (p := ⟨g, j, none⟩) h2, hb.frozen (p := ⟨g, j, none⟩) h2]; exact h5 j hj
  · rw [hb.cell (p := ⟨g, j, none⟩) h2]; exact h6 j hj
theorem Buf.alloc {w : World} {base : Nat} {v : Value} {l : List UInt8} (h : Buf w base v l) (o : Obj) : Buf (w.alloc o) base v l :=
  h.below ((Below.refl _ _).alloc (Nat.le_refl _) o)
theorem cell_marked (w : World) (C : Array Value) (t : TypeId) (a b j : Nat) : (w.alloc (.cells C t (a, b))).cell? ⟨w.heap.size, j, none⟩ = C[j]? := by
  have h0 := heap_alloc_new w (.cells C t (a, b))
  unfold World.cell?
  simp only [h0]
  rfl
theorem frozen_marked (w : World) (C : Array Value) (t : TypeId) (a b j : Nat) (h : j < a) : (w.alloc (.cells C t (a, b))).frozen? ⟨w.heap.size, j, none⟩ = false := by
  have h0 := heap_alloc_new w (.cells C t (a, b))
  unfold World.frozen?
  simp only [h0]
  simp; omega
theorem buf_of_string (w : World) (s : ByteArray) (e : TypeId) (hs : s.size ≤ maxLen) :
    Buf (w.drew.alloc (.cells (bytesRow s (grownCap w s.size 0 e)) e ((bytesRow s (grownCap w s.size 0 e)).size, (bytesRow s (grownCap w s.size 0 e)).size + 1))) w.heap.size
      (.slice (some ⟨w.heap.size, 0, none⟩) s.size (grownCap w s.size 0 e)) s.data.toList := by
  have hge := grownCap_ge w s.size 0 e
  have hle := grownCap_le_maxLen w s.size 0 e hs
  have hsz : s.data.size = s.size := rfl
  generalize grownCap w s.size 0 e = cap at *
  have hrow : (bytesRow s cap).size = cap := by simp [bytesRow, hsz]; omega
  refine ⟨w.heap.size, cap, by simp [hsz], Nat.le_refl _, by simp, by simpa [hsz] using hge, hle, fun j hj => ⟨?_, ?_⟩, fun j hj => ?_⟩
  · have := cell_marked w.drew (bytesRow s cap) e (bytesRow s cap).size ((bytesRow s cap).size + 1) j
    simp only [World.size_drew] at this
    rw [this, Array.getElem?_eq_getElem (by omega)]; rfl
  · have := frozen_marked w.drew (bytesRow s cap) e (bytesRow s cap).size ((bytesRow s cap).size + 1) j (by omega)
    simpa only [World.size_drew] using this
  · have := cell_marked w.drew (bytesRow s cap) e (bytesRow s cap).size ((bytesRow s cap).size + 1) j
    simp only [World.size_drew] at this
    have hj' : j < s.data.size := by simpa using hj
    rw [this]
    unfold bytesRow
    rw [Array.getElem?_append_left (by simpa using hj')]
    simp [hj']
    exact ⟨_, Array.getElem?_eq_getElem hj', rfl⟩
section
variable {P : Program}
theorem run_buf_append (w : World) (base : Nat) (t ty e : TypeId) (i : TypeInfo) (z : Value) (ht : P.underlying t = some (.slice e)) (hi : P.info? e = some i) (hz : i.zero = some z) (hsize : i.size = 1) (hby : i.bytes = 1) (hzs : z.cells.size = 1)
    (v : Value) (l : List UInt8) (hbuf : Buf w base v l) (a : Addr) (c : Nat) (x : UInt8) (hx : w.cell? a = some (.int .u8 (x.toNat : Int))) (hlen : l.length + 1 ≤ 140737488355328) (hbase : base ≤ w.heap.size) :
    ∃ v' w', (Builtin.append_ #[t, t] ty #[v, .slice (some a) 1 c]).run P w = .ok v' w' ∧ Buf w' base v' (l ++ [x]) ∧ Below base w w' := by
  obtain ⟨g, cap, rfl, h1, h2, h3, h4, h5, h6⟩ := hbuf
  have hnews : ∀ j u, [Value.int .u8 (x.toNat : Int)][j]? = some u → w.cell? (a.add j) = some u := by
    intro j u hj
    match j, hj with
    | 0, hj => simp at hj; subst hj; simpa [Addr.add] using hx
  have hone : ∀ u ∈ [Value.int .u8 (x.toNat : Int)], u.oneCell' = true := by intro u hu; simp at hu; subst hu; rfl
  by_cases hroom : l.length + 1 ≤ cap
  · refine ⟨_, _, run_append_room_cells (P := P) w t ty e i ht hi g 0 l.length cap a 1 c [.int .u8 (x.toNat : Int)] (by simp [hsize]) hnews hone hroom ?_ ?_, ?_, ?_⟩
    · intro j hj
      have : j = 0 := by simpa using hj
      subst this
      simpa [hsize] using (h5 l.length (by omega)).1
    · intro j hj
      have : j = 0 := by simpa using hj
      subst this
      simpa [hsize] using (h5 l.length (by omega)).2
    · rw [hsize]
      refine ⟨g, cap, by simp, h1, ?_, by simpa using hroom, h4, fun j hj => ⟨?_, ?_⟩, fun j hj => ?_⟩
      · simpa [World.setCells] using h2
      · obtain ⟨u, hu⟩ := Option.isSome_iff_exists.1 (h5 j hj).1
        simp only [World.setCells, Nat.zero_add, Nat.mul_one]
        by_cases e0 : j = l.length
        · subst e0; rw [World.cell?_setCell_same (w := w) (h := hu)]; rfl
        · rw [World.cell?_setCell_other (w := w) (h := fun h => e0 (by injection h with _ h2; exact h2.symm)), hu]; rfl
      · simp only [World.setCells]; rw [frozen?_set]; exact (h5 j hj).2
      · simp only [World.setCells, Nat.zero_add, Nat.mul_one]
        by_cases e0 : j = l.length
        · subst e0
          obtain ⟨u, hu⟩ := Option.isSome_iff_exists.1 (h5 l.length (by omega)).1
          rw [World.cell?_setCell_same (w := w) (h := hu)]
          simp
        · have hj' : j < l.length := by simp at hj; omega
          rw [World.cell?_setCell_other (w := w) (h := fun h => e0 (by injection h with _ h2; exact h2.symm)), h6 j hj']
          simp [List.getElem_append_left hj']
    · simp only [World.setCells]
      exact (Below.refl _ _).setCell h1 _
  · obtain ⟨v', w', hr, hown, hg⟩ := run_append_arg_grows (P := P) w t ty e i z 1 1 ht hi hz hsize hby hzs (by decide) ⟨g, 0, none⟩ l.length cap (l.map fun b => Value.int .u8 (b.toNat : Int)) (by simp)
      (by
        intro j u hj
        have hj' : j < l.length := by simpa using (List.getElem?_eq_some_iff.1 hj).1
        have := h6 j hj'
        simp [hj'] at hj
        subst hj
        simpa [Addr.add_lit] using this)
      a 1 c [.int .u8 (x.toNat : Int)] (by simp) hnews (by omega) (by unfold maxLen; omega) (by omega)
    refine ⟨v', w', hr, ?_, ⟨hg.os, hg.tape, hg.output, hg.size, fun k hk => hg.block k (by omega) (by simp)⟩⟩
    obtain ⟨hl, ⟨_, h0⟩ | ⟨g', cap', cur, rfl, hb', hgg, hnc, hcm, hcs, htake⟩⟩ := hown
    · omega
    · have hlt : g' < w'.heap.size := (Array.getElem?_eq_some_iff.1 hgg).1
      refine ⟨g', cap', by simp, by omega, hlt, by simpa using hnc, hcm, fun j hj => ⟨?_, ?_⟩, fun j hj => ?_⟩
      · rw [cell_of_row w' g' j cur e (0, 0) hgg, Array.getElem?_eq_getElem (by omega)]; rfl
      · simp [World.frozen?, hgg]
      · rw [cell_of_row w' g' j cur e (0, 0) hgg]
        have hj2 : j < l.length + 1 := by simpa using hj
        have : (cur.toList.take ((l.length + 1) * 1))[j]? = some (.int .u8 ((l ++ [x])[j].toNat : Int)) := by
          rw [htake]
          have : (List.map (fun b : UInt8 => Value.int .u8 (b.toNat : Int)) l ++ [Value.int .u8 (x.toNat : Int)]) = (l ++ [x]).map (fun b : UInt8 => Value.int .u8 (b.toNat : Int)) := by simp
          rw [this, List.getElem?_map, List.getElem?_eq_getElem hj]; rfl
        rw [List.getElem?_take] at this
        rw [if_pos (by omega)] at this
        simpa using this
theorem wpList_buf_append (w : World) {ops : Array Oper} {rest : List Oper} {o : Oper} {a : Act} {Q : Exit → Act → World → Prop} (hgd : o.guard = none) (s y : Operand) (t : TypeId)
    (ho : o.op = .call { callee := .builtin .append, args := #[s, y], argTypes := #[t, t] })
    (base : Nat) (e : TypeId) (i : TypeInfo) (z : Value) (ht : P.underlying t = some (.slice e)) (hi : P.info? e = some i) (hz : i.zero = some z) (hsize : i.size = 1) (hby : i.bytes = 1) (hzs : z.cells.size = 1)
    (v : Value) (l : List UInt8) (hs : a.eval s = v) (hbuf : Buf w base v l) (ad : Addr) (c : Nat) (x : UInt8) (hy : a.eval y = .slice (some ad) 1 c) (hx : w.cell? ad = some (.int .u8 (x.toNat : Int))) (hlen : l.length + 1 ≤ 140737488355328) (hbase : base ≤ w.heap.size)
    (h : ∀ v' w', Buf w' base v' (l ++ [x]) → Below base w w' → wpList P ops Q rest (a.put o.dst v') w') : wpList P ops Q (o :: rest) a w := by
  refine wpList_plain hgd fun K hK => ?_
  obtain ⟨v', w', hr, h1, h2⟩ := run_buf_append (P := P) w base t o.type e i z ht hi hz hsize hby hzs v l hbuf ad c x hx hlen hbase
  unfold Oper.wp execOp
  simp only [ho, resolve, invoke, builtin, Sem.run_bind, Sem.run_pure, Result.andThen_ok, List.map_toArray, List.map_cons, List.map_nil, hs, hy, hr]
  exact hK _ _ (h v' w' h1 h2)
theorem run_buf_string (w : World) (base : Nat) (src dst e : TypeId) (v : Value) (l : List UInt8) (hs : P.underlying src = some (.slice e)) (he : P.underlying e = some (.int .u8)) (hd : P.underlying dst = some .string) (hbuf : Buf w base v l) :
    (convert src dst v).run P w = .ok (.string ⟨l.toArray⟩) w := by
  obtain ⟨g, cap, rfl, h1, h2, h3, h4, h5, h6⟩ := hbuf
  exact run_convert_bytes_back (P := P) w src dst e ⟨g, 0, none⟩ cap l hs he hd fun j hj => by rw [Addr.add_lit]; simpa using h6 j hj
end
end Go.Proofs.YtbippdeahoehoaaGreat
namespace Go.Proofs.YtbippdeahoehoaaGreat
open Go.RowKit
theorem info_u8 : (Tryz.prog.info? 5).map (fun i => (i.zero, i.size, i.bytes)) = some (some (.int .u8 0), 1, 1) := by kernel_rfl
set_option maxRecDepth 100000 in
set_option maxHeartbeats 400000 in
theorem oct_put (s : ByteArray) (n : Int) (k : Nat) (hk : k ≤ 8) (hs : s.size ≤ 1099511627776) (w : World) :
    Calls Tryz.prog 203 #[.string s, .int .i64 n, .int .i64 k] w fun e w' => e = .returned (.string ⟨(s.data.toList ++ Oct.be (Oct.u64 n) k).toArray⟩) ∧ Below w.heap.size w w' := by
  obtain ⟨i0, hi, hz0, hz1, hz2⟩ := info_parts info_u8
  have hconv := fun W => run_bytes_of_string (P := Tryz.prog) W 9 346 5 s Tryz.underlying9 Tryz.underlying346 Tryz.underlying5
  go_enter Tryz.func203, Tryz.ntmps203
  go_wp2_with fail
  have hB := buf_of_string w s 5 (by unfold maxLen; omega)
  generalize grownCap w s.size 0 5 = cap0 at *
  go_loopw [7, 8] (fun v i wr => ∃ j : Nat, j ≤ k ∧ i = .int .i64 ((j : Int) - 1) ∧ Buf wr w.heap.size v (s.data.toList ++ (Oct.be (Oct.u64 n) k).take (k - j)) ∧ Below w.heap.size w wr)
    (fun _ i _ => (intOf i + 1).toNat)
  case atStart => exact ⟨k, Nat.le_refl _, rfl, by rw [Oct.be_none, List.append_nil]; exact hB, by (repeat' (first | (with_reducible exact Below.refl _ _) | (with_reducible refine below_alloc ?_ _) | (with_reducible refine Below.drew ?_) | (with_reducible refine below_drewN ?_ _) | (with_reducible refine Below.setCell ?_ ?_ _) | (with_reducible assumption) | (with_reducible refine below_of ?_ (by assumption)) | omega | (simp only [World.size_alloc, World.size_setCell, World.size_drew, size_drewN] at *; omega) | (simp; omega)))⟩
  case round =>
    obtain ⟨j, hj, rfl, hbuf, hbl⟩ := hrel
    clear hB
    have hbs := hbl.size
    cases j with
    | zero =>
      have hc := run_buf_string (P := Tryz.prog) wr w.heap.size 346 9 5 _ _ Tryz.underlying346 Tryz.underlying5 Tryz.underlying9 hbuf
      rw [Oct.be_full] at hc
      go_wp2
      go_ret
      exact ⟨rfl, hbl⟩
    | succ j =>
      have hval : (((j + 1 : Nat) : Int) - 1) = (j : Int) := by omega
      rw [hval]
      clear hval
      have hx0 : IntKind.u64.wrap n / 2 ^ (8 * j) % 256 = (((UInt8.ofNat (Oct.u64 n / 256 ^ j)).toNat : Nat) : Int) := by
        rw [Oct.byte_of, Oct.u64_cast]; rfl
      have HX := Lib.hid hx0
      have hsn := Oct.be_snoc (Oct.u64 n) k j (by omega)
      have HS := Lib.hid hsn
      have hsd : s.data.toList.length = s.size := by simp
      have hln : (s.data.toList ++ (Oct.be (Oct.u64 n) k).take (k - (j + 1))).length + 1 ≤ 140737488355328 := by
        rw [List.length_append, List.length_take, Oct.be_length, hsd]; omega
      have HL := Lib.hid hln
      clear hx0 hsn hsd hln
      go_wp2_with (at_builtin; refine wpList_buf_append _ rfl _ _ 346 rfl w.heap.size 5 i0 (.int .u8 0) Tryz.underlying346 hi hz0 hz1 hz2 rfl _ _ rfl (hbuf.alloc _) ⟨wr.heap.size, 0, none⟩ 1 (UInt8.ofNat (Oct.u64 n / 256 ^ j)) rfl (by rw [← HX.out]; simp) HL.out (by simp; omega) ?_; intro v' w1 hbuf' hb')
      rw [List.append_assoc, HS.out] at hbuf'
      go_roundw
      case rel => exact ⟨j, by omega, rfl, hbuf', by have := hbl.alloc (Nat.le_of_lt_succ (Nat.lt_succ_of_le hbs)) (.cells #[.int .u8 (IntKind.u64.wrap n / 2 ^ (8 * j) % 256)] 5); exact this.trans hb'⟩
      case measure => simp [intOf] <;> omega
theorem oct_putL (l : List UInt8) (n k : Int) (hk0 : 0 ≤ k) (hk : k ≤ 8) (hl : l.length ≤ 1099511627776) (w : World) :
    Calls Tryz.prog 203 #[.string ⟨l.toArray⟩, .int .i64 n, .int .i64 k] w fun e w' => e = .returned (.string ⟨(l ++ Oct.be (Oct.u64 n) k.toNat).toArray⟩) ∧ Below w.heap.size w w' := by
  obtain ⟨m, rfl⟩ := Int.eq_ofNat_of_zero_le hk0
  have := oct_put ⟨l.toArray⟩ n m (by omega) (by show l.toArray.size ≤ _; simpa using hl) w
  simpa using this
theorem octv_take (l : List UInt8) (k : Nat) (h : k < l.length) : Oct.val (l.take (k + 1)) = 256 * Oct.val (l.take k) + l[k].toNat := by
  unfold Oct.val
  rw [List.take_succ_eq_append_getElem h, List.foldl_append]; rfl
theorem oct_of (s : ByteArray) (hs : s.size ≤ maxLen) (w : World) : Calls Tryz.prog 261 #[.string s] w fun e w' => e = .returned (.int .i64 (wrap64 (((Oct.val s.data.toList) % 18446744073709551616 : Nat) : Int))) ∧ w = w' := by
  unfold maxLen at hs
  go_enter Tryz.func261, Tryz.ntmps261
  go_wp2
  go_loop [3, 7] (fun n i => ∃ k : Nat, k ≤ s.size ∧ i = .int .i64 k ∧ n = .int .u64 (((Oct.val (s.data.toList.take k)) % 18446744073709551616 : Nat) : Int)) (fun _ i => s.size - (intOf i).toNat)
  case atStart => exact ⟨0, Nat.zero_le _, rfl, rfl⟩
  case round =>
    obtain ⟨k, hk, rfl, rfl⟩ := hrel
    by_cases hlt : k < s.size
    · have hv := octv_take s.data.toList k (by simpa using hlt)
      have HV := Lib.hid hv
      clear hv
      generalize Oct.val (s.data.toList.take k) = v at *
      go_wp2
      go_round
      case rel =>
        refine ⟨k + 1, by omega, by go_num, ?_⟩
        rw [HV.out]
        have e : s.data.toList[k]'(by simpa using hlt) = s[k] := by simp; rfl
        rw [e]
        have hb : s[k].toNat < 256 := s[k].toNat_lt
        generalize s[k].toNat = b at *
        congr 1
        have := Oct.or_low (v % 18446744073709551616) b hb
        rw [show (((v % 18446744073709551616 : Nat)) : Int) = (v : Int) % 18446744073709551616 by omega] at this
        rw [this]
        omega
      case measure => simp [intOf]; omega
    · go_wp2
      go_ret
      exact ⟨ret_i (by rw [List.take_of_length_le (by simp; omega)]), rfl⟩
end Go.Proofs.YtbippdeahoehoaaGreat
namespace Go.Proofs.YtbippdeahoehoaaGreat
open Go.RowKit
end Go.Proofs.YtbippdeahoehoaaGreat
namespace Go.Proofs.YtbippdeahoehoaaGreat
open Go.RowKit
set_option maxRecDepth 100000 in
set_option maxHeartbeats 400000 in
theorem oct32_put (s : ByteArray) (n : Int) (k : Nat) (hk : k ≤ 8) (hs : s.size ≤ 1099511627776) (w : World) :
    Calls Tryz.prog 443 #[.string s, .int .u32 n, .int .i64 k] w fun e w' => e = .returned (.string ⟨(s.data.toList ++ Oct.be (Oct.u64 n) k).toArray⟩) ∧ Below w.heap.size w w' := by
  obtain ⟨i0, hi, hz0, hz1, hz2⟩ := info_parts info_u8
  have hconv := fun W => run_bytes_of_string (P := Tryz.prog) W 9 346 5 s Tryz.underlying9 Tryz.underlying346 Tryz.underlying5
  go_enter Tryz.func443, Tryz.ntmps443
  go_wp2_with fail
  have hB := buf_of_string w s 5 (by unfold maxLen; omega)
  generalize grownCap w s.size 0 5 = cap0 at *
  go_loopw [7, 8] (fun v i wr => ∃ j : Nat, j ≤ k ∧ i = .int .i64 ((j : Int) - 1) ∧ Buf wr w.heap.size v (s.data.toList ++ (Oct.be (Oct.u64 n) k).take (k - j)) ∧ Below w.heap.size w wr)
    (fun _ i _ => (intOf i + 1).toNat)
  case atStart => exact ⟨k, Nat.le_refl _, rfl, by rw [Oct.be_none, List.append_nil]; exact hB, by (repeat' (first | (with_reducible exact Below.refl _ _) | (with_reducible refine below_alloc ?_ _) | (with_reducible refine Below.drew ?_) | (with_reducible refine below_drewN ?_ _) | (with_reducible refine Below.setCell ?_ ?_ _) | (with_reducible assumption) | (with_reducible refine below_of ?_ (by assumption)) | omega | (simp only [World.size_alloc, World.size_setCell, World.size_drew, size_drewN] at *; omega) | (simp; omega)))⟩
  case round =>
    obtain ⟨j, hj, rfl, hbuf, hbl⟩ := hrel
    clear hB
    have hbs := hbl.size
    cases j with
    | zero =>
      have hc := run_buf_string (P := Tryz.prog) wr w.heap.size 346 9 5 _ _ Tryz.underlying346 Tryz.underlying5 Tryz.underlying9 hbuf
      rw [Oct.be_full] at hc
      go_wp2
      go_ret
      exact ⟨rfl, hbl⟩
    | succ j =>
      have hval : (((j + 1 : Nat) : Int) - 1) = (j : Int) := by omega
      rw [hval]
      clear hval
      have hx0 : IntKind.u64.wrap n / 2 ^ (8 * j) % 256 = (((UInt8.ofNat (Oct.u64 n / 256 ^ j)).toNat : Nat) : Int) := by
        rw [Oct.byte_of, Oct.u64_cast]; rfl
      have HX := Lib.hid hx0
      have hsn := Oct.be_snoc (Oct.u64 n) k j (by omega)
      have HS := Lib.hid hsn
      have hsd : s.data.toList.length = s.size := by simp
      have hln : (s.data.toList ++ (Oct.be (Oct.u64 n) k).take (k - (j + 1))).length + 1 ≤ 140737488355328 := by
        rw [List.length_append, List.length_take, Oct.be_length, hsd]; omega
      have HL := Lib.hid hln
      clear hx0 hsn hsd hln
      go_wp2_with (at_builtin; refine wpList_buf_append _ rfl _ _ 346 rfl w.heap.size 5 i0 (.int .u8 0) Tryz.underlying346 hi hz0 hz1 hz2 rfl _ _ rfl (hbuf.alloc _) ⟨wr.heap.size, 0, none⟩ 1 (UInt8.ofNat (Oct.u64 n / 256 ^ j)) rfl (by rw [← HX.out]; simp) HL.out (by simp; omega) ?_; intro v' w1 hbuf' hb')
      rw [List.append_assoc, HS.out] at hbuf'
      go_roundw
      case rel => exact ⟨j, by omega, rfl, hbuf', by have := hbl.alloc (Nat.le_of_lt_succ (Nat.lt_succ_of_le hbs)) (.cells #[.int .u8 (IntKind.u64.wrap n / 2 ^ (8 * j) % 256)] 5); exact this.trans hb'⟩
      case measure => simp [intOf] <;> omega
theorem oct32_putL (l : List UInt8) (n k : Int) (hk0 : 0 ≤ k) (hk : k ≤ 8) (hl : l.length ≤ 1099511627776) (w : World) :
    Calls Tryz.prog 443 #[.string ⟨l.toArray⟩, .int .u32 n, .int .i64 k] w fun e w' => e = .returned (.string ⟨(l ++ Oct.be (Oct.u64 n) k.toNat).toArray⟩) ∧ Below w.heap.size w w' := by
  obtain ⟨m, rfl⟩ := Int.eq_ofNat_of_zero_le hk0
  have := oct32_put ⟨l.toArray⟩ n m (by omega) (by show l.toArray.size ≤ _; simpa using hl) w
  simpa using this
theorem oct32_of (s : ByteArray) (hs : s.size ≤ maxLen) (w : World) : Calls Tryz.prog 454 #[.string s] w fun e w' => e = .returned (.int .u32 ((Oct.val s.data.toList % 4294967296 : Nat) : Int)) ∧ w = w' := by
  unfold maxLen at hs
  go_enter Tryz.func454, Tryz.ntmps454
  go_wp2
  go_loop [3, 7] (fun n i => ∃ k : Nat, k ≤ s.size ∧ i = .int .i64 k ∧ n = .int .u64 (((Oct.val (s.data.toList.take k)) % 18446744073709551616 : Nat) : Int)) (fun _ i => s.size - (intOf i).toNat)
  case atStart => exact ⟨0, Nat.zero_le _, rfl, rfl⟩
  case round =>
    obtain ⟨k, hk, rfl, rfl⟩ := hrel
    by_cases hlt : k < s.size
    · have hv := octv_take s.data.toList k (by simpa using hlt)
      have HV := Lib.hid hv
      clear hv
      generalize Oct.val (s.data.toList.take k) = v at *
      go_wp2
      go_round
      case rel =>
        refine ⟨k + 1, by omega, by go_num, ?_⟩
        rw [HV.out]
        have e : s.data.toList[k]'(by simpa using hlt) = s[k] := by simp; rfl
        rw [e]
        have hb : s[k].toNat < 256 := s[k].toNat_lt
        generalize s[k].toNat = b at *
        congr 1
        have := Oct.or_low (v % 18446744073709551616) b hb
        rw [show (((v % 18446744073709551616 : Nat)) : Int) = (v : Int) % 18446744073709551616 by omega] at this
        rw [this]
        omega
      case measure => simp [intOf]; omega
    · go_wp2
      go_ret
      exact ⟨ret_i (by rw [List.take_of_length_le (by simp; omega)]), rfl⟩
end Go.Proofs.YtbippdeahoehoaaGreat
namespace Go.Proofs.YtbippdeahoehoaaGreat
open Go.RowKit Sym
theorem follows : Tryz.prog.follows .mixedOrders = true := by kernel_rfl
theorem of_same {P : Program} {f : FuncId} {xs : Array Value} {w : World} {v : Value} (h : Calls P f xs w fun e w' => e = .returned v ∧ w = w') : Calls P f xs w fun e w' => e = .returned v ∧ Below w.heap.size w w' :=
  h.mono fun _ _ ⟨he, hw⟩ => ⟨he, by subst hw; exact .refl _ _⟩
theorem ba_size (s : ByteArray) : s.data.toList.length = s.size := by simp
theorem oct_put_tab (s : ByteArray) (n k : Int) (h : 0 ≤ k ∧ k ≤ 8 ∧ s.size ≤ 1099511627776) (w : World) : Calls Tryz.prog 203 #[.string s, .int .i64 n, .int .i64 k] w fun e w' => e = .returned (.string (Oct.put s n k)) ∧ Below w.heap.size w w' := by
  have := oct_putL s.data.toList n k h.1 h.2.1 (by rw [ba_size]; exact h.2.2) w
  simpa [Oct.put] using this
theorem oct32_put_tab (s : ByteArray) (n k : Int) (h : 0 ≤ k ∧ k ≤ 8 ∧ s.size ≤ 1099511627776) (w : World) : Calls Tryz.prog 443 #[.string s, .int .u32 n, .int .i64 k] w fun e w' => e = .returned (.string (Oct.put s n k)) ∧ Below w.heap.size w w' := by
  have := oct32_putL s.data.toList n k h.1 h.2.1 (by rw [ba_size]; exact h.2.2) w
  simpa [Oct.put] using this
def tOctPut : List Value → Option (List Prop × Value) | [.string s, .int .i64 n, .int .i64 k] => some ([0 ≤ k ∧ k ≤ 8 ∧ s.size ≤ 1099511627776], .string (Oct.put s n k)) | _ => none
def tOct32Put : List Value → Option (List Prop × Value) | [.string s, .int .u32 n, .int .i64 k] => some ([0 ≤ k ∧ k ≤ 8 ∧ s.size ≤ 1099511627776], .string (Oct.put s n k)) | _ => none
def valU (s : ByteArray) : Int := ((Oct.val s.data.toList % 18446744073709551616 : Nat) : Int)
def tRef01Of : List Value → Option (List Prop × Value) | [.string s] => some ([s.size ≤ maxLen], .int .u64 (valU s)) | _ => none
def tOctOf : List Value → Option (List Prop × Value) | [.string s] => some ([s.size ≤ maxLen], .int .i64 (wrap64 (valU s))) | _ => none
def tOct32Of : List Value → Option (List Prop × Value) | [.string s] => some ([s.size ≤ maxLen], .int .u32 ((Oct.val s.data.toList % 4294967296 : Nat) : Int)) | _ => none
def SOct  : Tab := addS 203 tOctPut <| addS 261 tOctOf <| addS 454 tOct32Of <| addS 443 tOct32Put <| noS
theorem SOct_ok : TabOk Tryz.prog (SOct) := by
  refine addS_ok (addS_ok (addS_ok (addS_ok (noS_ok) (by kernel_rfl) ?_) (by kernel_rfl) ?_) (by kernel_rfl) ?_) (by kernel_rfl) ?_
  · (intro xs p v h hp w; unfold tOct32Put at h; (split at h) <;> first | (cases h; done) | (simp only [Option.some.injEq, Prod.mk.injEq] at h; obtain ⟨rfl, rfl⟩ := h; exact oct32_put_tab _ _ _ (hp _ (List.mem_cons_self ..)) w))
  · (intro xs p v h hp w; unfold tOct32Of at h; (split at h) <;> first | (cases h; done) | (simp only [Option.some.injEq, Prod.mk.injEq] at h; obtain ⟨rfl, rfl⟩ := h; exact of_same (oct32_of _ (hp _ (List.mem_cons_self ..)) w)))
  · (intro xs p v h hp w; unfold tOctOf at h; (split at h) <;> first | (cases h; done) | (simp only [Option.some.injEq, Prod.mk.injEq] at h; obtain ⟨rfl, rfl⟩ := h; exact of_same (oct_of _ (hp _ (List.mem_cons_self ..)) w)))
  · (intro xs p v h hp w; unfold tOctPut at h; (split at h) <;> first | (cases h; done) | (simp only [Option.some.injEq, Prod.mk.injEq] at h; obtain ⟨rfl, rfl⟩ := h; exact oct_put_tab _ _ _ (hp _ (List.mem_cons_self ..)) w))
theorem w64 (z : Int) (h0 : -9223372036854775808 ≤ z) (h1 : z < 9223372036854775808) : IntKind.i64.wrap z = z := IntWalk.i64_in _ (by omega)
theorem noloops {P : Program} {N : Nat} {c : Code} (h : loopsOf c = []) {L : Nat → St → Option (T (Ex × St))} : ∀ id b, (id, b) ∈ loopsOf c → ∀ st t, L id st = some t → RunOk P N (.block id (.loop b)) st t := by
  intro id b hm; rw [h] at hm; cases hm
theorem put_size (s : ByteArray) (z : Int) (k : Nat) : (Oct.put s z (k : Nat)).size = s.size + k := by rw [Oct.put_size]; omega
def LUn (P : Program) (C : Cfg) (fn : Func) (n : Nat) : Nat → St → Option (T (Ex × St)) := addL 0 (unrollB (runC P C noL fn.ntmps (loopAt fn 0)) 0 n) noL
namespace Sha
def w32 (z : Int) : Int := IntKind.u32.wrap z
def rorN (x : Int) (n : Nat) : Int := IntKind.u32.wrap (((x.fdiv ((2 ^ n : Nat) : Int) % 4294967296).toNat ||| (IntKind.u32.wrap (x * ((2 ^ (32 - n) : Nat) : Int)) % 4294967296).toNat : Nat) : Int)
def xor (a b : Int) : Int := IntKind.u32.wrap (((a % 4294967296).toNat ^^^ (b % 4294967296).toNat : Nat) : Int)
def and (a b : Int) : Int := IntKind.u32.wrap (((a % 4294967296).toNat &&& (b % 4294967296).toNat : Nat) : Int)
def not (a : Int) : Int := xor 4294967295 a
def low (x : Int) : Int := xor (xor (rorN x 7) (rorN x 18)) (x.fdiv 8)
def high (x : Int) : Int := xor (xor (rorN x 17) (rorN x 19)) (x.fdiv 1024)
def nxt (w16 w15 w7 w2 : Int) : Int := w32 (w32 (w32 (w16 + low w15) + w7) + high w2)
def schedL (m : Nat → Int) : Nat → List Int
  | 0 => []
  | i + 1 => schedL m i ++ [if i < 16 then m i else nxt (nth (schedL m i) (i - 16)) (nth (schedL m i) (i - 15)) (nth (schedL m i) (i - 7)) (nth (schedL m i) (i - 2))]
theorem schedL_length (m : Nat → Int) : ∀ i, (schedL m i).length = i
  | 0 => rfl
  | i + 1 => by simp [schedL, schedL_length m i]
theorem schedL_nth (m : Nat → Int) : ∀ (i j : Nat), j < i → nth (schedL m i) j = nth (schedL m (j + 1)) j
  | 0, _, h => by omega
  | i + 1, j, h => by
    by_cases e : j = i
    · subst e; rfl
    · rw [← schedL_nth m i j (by omega)]
      unfold nth
      show (schedL m i ++ _).getD j 0 = _
      rw [List.getD_eq_getElem?_getD, List.getD_eq_getElem?_getD, List.getElem?_append_left (by rw [schedL_length]; omega)]
theorem schedL_last (m : Nat → Int) (i : Nat) : nth (schedL m (i + 1)) i = if i < 16 then m i else nxt (nth (schedL m i) (i - 16)) (nth (schedL m i) (i - 15)) (nth (schedL m i) (i - 7)) (nth (schedL m i) (i - 2)) := by
  unfold nth
  show (schedL m i ++ _).getD i 0 = _
  rw [List.getD_eq_getElem?_getD, List.getElem?_append_right (by rw [schedL_length]; omega), schedL_length]
  simp [nth]
structure H8 where
  a : Int
  b : Int
  c : Int
  d : Int
  e : Int
  f : Int
  g : Int
  h : Int
deriving DecidableEq
def Kt : List Int := [1116352408, 1899447441, 3049323471, 3921009573, 961987163, 1508970993, 2453635748, 2870763221, 3624381080, 310598401, 607225278, 1426881987, 1925078388, 2162078206, 2614888103, 3248222580, 3835390401, 4022224774, 264347078, 604807628, 770255983, 1249150122, 1555081692, 1996064986, 2554220882, 2821834349, 2952996808, 3210313671, 3336571891, 3584528711, 113926993, 338241895, 666307205, 773529912, 1294757372, 1396182291, 1695183700, 1986661051, 2177026350, 2456956037, 2730485921, 2820302411, 3259730800, 3345764771, 3516065817, 3600352804, 4094571909, 275423344, 430227734, 506948616, 659060556, 883997877, 958139571, 1322822218, 1537002063, 1747873779, 1955562222, 2024104815, 2227730452, 2361852424, 2428436474, 2756734187, 3204031479, 3329325298]
def H0 : H8 := ⟨1779033703, 3144134277, 1013904242, 2773480762, 1359893119, 2600822924, 528734635, 1541459225⟩
def one (v : H8) (k w : Int) : Int := w32 (w32 (w32 (w32 (v.h + xor (xor (rorN v.e 6) (rorN v.e 11)) (rorN v.e 25)) + xor (and v.e v.f) (and (not v.e) v.g)) + k) + w)
def two (v : H8) : Int := w32 (xor (xor (rorN v.a 2) (rorN v.a 13)) (rorN v.a 22) + xor (xor (and v.a v.b) (and v.a v.c)) (and v.b v.c))
def rnd (v : H8) (k w : Int) : H8 := ⟨w32 (one v k w + two v), v.a, v.b, v.c, w32 (v.d + one v k w), v.e, v.f, v.g⟩
def rnds (ws : List Int) : Nat → H8 → H8
  | 0, v => v
  | i + 1, v => rnd (rnds ws i v) (nth Kt i) (nth ws i)
def addH (v h : H8) : H8 := ⟨w32 (v.a + h.a), w32 (v.b + h.b), w32 (v.c + h.c), w32 (v.d + h.d), w32 (v.e + h.e), w32 (v.f + h.f), w32 (v.g + h.g), w32 (v.h + h.h)⟩
def word (l : List UInt8) (i : Nat) : Int := ((Oct.val ((l.drop (4 * i)).take 4) : Nat) : Int)
def sched (l : List UInt8) : List Int := schedL (word l) 64
def blockH (h : H8) (l : List UInt8) : H8 := addH (rnds (sched l) 64 h) h
def foldB : Nat → H8 → List UInt8 → H8
  | 0, h, _ => h
  | n + 1, h, l => foldB n (blockH h (l.take 64)) (l.drop 64)
def txt (h : H8) : List UInt8 := Oct.be (Oct.u64 h.a) 4 ++ Oct.be (Oct.u64 h.b) 4 ++ Oct.be (Oct.u64 h.c) 4 ++ Oct.be (Oct.u64 h.d) 4 ++ Oct.be (Oct.u64 h.e) 4 ++ Oct.be (Oct.u64 h.f) 4 ++ Oct.be (Oct.u64 h.g) 4 ++ Oct.be (Oct.u64 h.h) 4
def foldA (h : H8) (l : List UInt8) : H8 := foldB (l.length / 64) h l
def restA (l : List UInt8) : List UInt8 := l.drop (64 * (l.length / 64))
def tail (r n : Nat) : List UInt8 := 128 :: (List.replicate ((119 - r % 64) % 64) 0 ++ Oct.be (8 * n % 18446744073709551616) 8)
def shaL (s : List UInt8) : List UInt8 := txt (foldA H0 (s ++ tail s.length s.length))
theorem foldB_add (m n : Nat) : ∀ (h : H8) (l : List UInt8), foldB (m + n) h l = foldB n (foldB m h l) (l.drop (64 * m)) := by
  induction m with
  | zero => intro h l; simp [foldB]
  | succ m ih =>
    intro h l
    rw [show m + 1 + n = (m + n) + 1 by omega]
    simp only [foldB]
    rw [ih]
    congr 1
    rw [List.drop_drop]
    congr 1; omega
theorem foldB_front (n : Nat) : ∀ (h : H8) (l r : List UInt8), 64 * n ≤ l.length → foldB n h (l ++ r) = foldB n h l := by
  induction n with
  | zero => intros; rfl
  | succ n ih =>
    intro h l r hl
    simp only [foldB]
    rw [List.take_append_of_le_length (by omega), List.drop_append_of_le_length (by omega), ih _ _ _ (by rw [List.length_drop]; omega)]
theorem restA_length (l : List UInt8) : (restA l).length = l.length % 64 := by
  unfold restA; rw [List.length_drop]; omega
theorem foldA_append (h : H8) (l r : List UInt8) : foldA (foldA h l) (restA l ++ r) = foldA h (l ++ r) := by
  unfold foldA
  have e : (l ++ r).length / 64 = l.length / 64 + (restA l ++ r).length / 64 := by
    rw [List.length_append, List.length_append, restA_length]; omega
  rw [e, foldB_add, foldB_front (l.length / 64) h l r (by omega), List.drop_append_of_le_length (by omega)]
  rfl
theorem restA_append (l r : List UInt8) : restA (restA l ++ r) = restA (l ++ r) := by
  have e : (l ++ r).length / 64 = l.length / 64 + (restA l ++ r).length / 64 := by
    rw [List.length_append, List.length_append, restA_length]; omega
  have : restA l ++ r = (l ++ r).drop (64 * (l.length / 64)) := by
    rw [List.drop_append_of_le_length (by omega)]; rfl
  unfold restA at *
  rw [this] at e ⊢
  rw [List.drop_drop]
  congr 1; omega
theorem sum_pieces (s : List UInt8) : txt (foldA (foldA H0 s) (restA s ++ tail (restA s).length s.length)) = shaL s := by
  rw [foldA_append]
  unfold shaL tail
  rw [restA_length, Nat.mod_mod]
theorem txt_length (h : H8) : (txt h).length = 32 := by simp [txt, Oct.be_length]
theorem shaL_length (s : List UInt8) : (shaL s).length = 32 := txt_length _
end Sha
def ba (l : List UInt8) : ByteArray := ⟨l.toArray⟩
theorem ba_len (l : List UInt8) : (ba l).size = l.length := by show l.toArray.size = _; simp
theorem ba_of (s : ByteArray) : ba s.data.toList = s := by cases s; rfl
theorem ba_extract (l : List UInt8) (a b : Nat) : (ba l).extract a b = ba ((l.drop a).take (b - a)) := by
  apply ByteArray.ext
  apply Array.toList_inj.1
  rw [ByteArray.data_extract, Array.toList_extract]
  simp [ba, List.extract_eq_take_drop]
def shaOf (s : ByteArray) : ByteArray := ⟨(Sha.shaL s.data.toList).toArray⟩
theorem shaOf_size (s : ByteArray) : (shaOf s).size = 32 := by
  show (Sha.shaL s.data.toList).toArray.size = 32
  simp [Sha.shaL_length]
end Go.Proofs.YtbippdeahoehoaaGreat
namespace Go.Proofs.YtbippdeahoehoaaGreat
open Go.RowKit Sym
namespace Mac
def turn (n : UInt8) (l : List UInt8) : List UInt8 := l.map (· ^^^ n)
def key64 (key : List UInt8) : List UInt8 :=
  let k := if 64 < key.length then Sha.shaL key else key
  k ++ List.replicate (64 - k.length) 0
def macL (key all : List UInt8) : List UInt8 := Sha.shaL (turn 92 (key64 key) ++ Sha.shaL (turn 54 (key64 key) ++ all))
def want : List UInt8 := [119, 104, 97, 116, 32, 100, 111, 32, 121, 97, 32, 119, 97, 110, 116, 32, 102, 111, 114, 32, 110, 111, 116, 104, 105, 110, 103, 63]
end Mac
def macOf (key all : ByteArray) : ByteArray := ⟨(Mac.macL key.data.toList all.data.toList).toArray⟩
end Go.Proofs.YtbippdeahoehoaaGreat
namespace Go.Proofs.YtbippdeahoehoaaGreat
open Go.RowKit Sym
def firstOf (p : Nat → Bool) : Nat → Nat → Nat
  | 0, i => i
  | k + 1, i => bif p i then i else firstOf p k (i + 1)
theorem firstOf_spec (p : Nat → Bool) : ∀ k i, i ≤ firstOf p k i ∧ firstOf p k i ≤ i + k ∧ (∀ j, i ≤ j → j < firstOf p k i → p j = false) ∧ (firstOf p k i < i + k → p (firstOf p k i) = true)
  | 0, i => ⟨Nat.le_refl _, Nat.le_refl _, fun j h1 h2 => by simp only [firstOf] at h2; omega, fun h => by simp only [firstOf] at h; omega⟩
  | k + 1, i => by
    cases hb : p i
    · have e : firstOf p (k + 1) i = firstOf p k (i + 1) := by simp only [firstOf, hb, cond_false]
      obtain ⟨h1, h2, h3, h4⟩ := firstOf_spec p k (i + 1)
      rw [e]
      refine ⟨by omega, by omega, fun j h5 h6 => ?_, fun h => h4 (by omega)⟩
      by_cases ej : j = i
      · subst ej; exact hb
      · exact h3 j (by omega) h6
    · have e : firstOf p (k + 1) i = i := by simp only [firstOf, hb, cond_true]
      rw [e]
      exact ⟨Nat.le_refl _, by omega, fun j h5 h6 => by omega, fun _ => hb⟩
def catR (g : Nat → ByteArray) : Nat → ByteArray
  | 0 => ⟨⟨[]⟩⟩
  | n + 1 => catR g n ++ g n
theorem catR_mono (g : Nat → ByteArray) {i n : Nat} (h : i ≤ n) : (catR g i).size ≤ (catR g n).size := by
  induction n with
  | zero => obtain rfl : i = 0 := by omega
            exact Nat.le_refl _
  | succ n ih =>
    by_cases e : i = n + 1
    · subst e; exact Nat.le_refl _
    · have := ih (by omega)
      show _ ≤ (catR g n ++ g n).size
      rw [ByteArray.size_append]; omega
end Go.Proofs.YtbippdeahoehoaaGreat
namespace Go.Proofs.YtbippdeahoehoaaGreat
open Go.RowKit Sym
end Go.Proofs.YtbippdeahoehoaaGreat
namespace Go.Proofs.YtbippdeahoehoaaGreat
open Go.RowKit Go.ChangeShapes Go.WideShapes Go.Deep
def IsRows (W : World) (n : Nat) (v : Value) (len : Nat) (f : Nat → Nat → Value) : Prop :=
  (v = .slice none 0 0 ∧ len = 0) ∨ ∃ (a : Addr) (cap : Nat), v = .slice (some a) len cap ∧ len ≤ cap ∧ cap ≤ maxLen ∧
    ∀ i, i < len → a.spot = none ∧ a.block < W.heap.size ∧ ∀ j, j < n → W.cell? ⟨a.block, a.off + i * n + j, none⟩ = some (f i j)
theorem open_rows_of {H : Type} {enc : TypeId × Value → H} {P : Program} {W : World} {base : Nat} {t e : TypeId} {v : Value} {d : DataW H} {p : List MemPlace} {sp : Nat → Bool} (n : Nat) (hn : P.cellsOf e = n) (hn0 : 0 < n) (ht : P.underlying t = some (.slice e))
    (hv : ∃ a len cap, v = .slice a len cap) (h : DataW.Trod enc P W base sp true t v d p) :
    ∃ (len : Nat) (f : Nat → Nat → Value), IsRows W n v len f ∧ len ≤ maxLen ∧ ∀ i, i < len → ∃ fuel x, DataW.trod enc P W base sp true fuel e ((List.range n).map (f i)) = some x := by
  obtain ⟨a0, len0, cap0, rfl⟩ := hv
  obtain ⟨fuel, hf⟩ := h
  rcases open_slice ht hf with ⟨h0, _⟩ | ⟨a, len, cap, m, k, D, Pl, h0, hb, hl, hm, hmm, _, hi⟩
  · simp [Value.cells] at h0
    obtain ⟨rfl, rfl, rfl⟩ := h0
    exact ⟨0, fun _ _ => undef, .inl ⟨rfl, rfl⟩, Nat.zero_le _, fun i hi => absurd hi (Nat.not_lt_zero _)⟩
  · simp [Value.cells] at h0
    obtain ⟨rfl, rfl, rfl⟩ := h0
    have hlm : len0 ≤ m := by rw [hmm]; split <;> omega
    rw [hn] at hi
    have hrow : ∀ i, i < len0 → ∃ cs' : List Value, cs'.length = n ∧ (∀ j, j < n → W.cell? (a.add (i * n + j)) = cs'[j]?) ∧ DataW.trod enc P W base sp true k e cs' = some (D i, Pl i) := by
      intro i hlt
      obtain ⟨cs', hc, htr⟩ := hi i (by omega)
      obtain ⟨_, hcl, hat⟩ := World.cells?_some hc
      exact ⟨cs', hcl, fun j hj => by rw [← add_add]; exact hat j hj, htr⟩
    refine ⟨len0, fun i j => (W.cell? (a.add (i * n + j))).getD undef, .inr ⟨a, cap0, rfl, hl, hm, fun i hlt => ?_⟩, by omega, fun i hlt => ?_⟩
    · obtain ⟨cs', hcl, hat, _⟩ := hrow i hlt
      have hs : ∀ j, j < n → ∃ u, W.cell? (a.add (i * n + j)) = some u := fun j hj => ⟨_, (hat j hj).trans (List.getElem?_eq_getElem (by omega))⟩
      have hsp : a.spot = none := by
        obtain ⟨c0, hcl0, hat0, _⟩ := hrow 0 (by omega)
        have h1 := World.cell?_spot ((hat0 0 hn0).trans (List.getElem?_eq_getElem (by omega)))
        simpa [Addr.add] using h1
      have he : ∀ j, a.add (i * n + j) = ⟨a.block, a.off + i * n + j, none⟩ := by
        intro j
        obtain ⟨bb, oo, ss⟩ := a
        simp only at hsp
        subst hsp
        unfold Addr.add
        by_cases h0 : i * n + j = 0 <;> simp [h0, Nat.add_assoc]
        omega
      refine ⟨hsp, ?_, fun j hj => ?_⟩
      · obtain ⟨u, hu⟩ := hs 0 hn0
        rw [he] at hu
        exact lt_of_cell (p := ⟨a.block, a.off + i * n + 0, none⟩) hu
      · obtain ⟨u, hu⟩ := hs j hj
        show W.cell? _ = some ((W.cell? (a.add (i * n + j))).getD undef)
        rw [← he, hu]; rfl
    · obtain ⟨cs', hcl, hat, htr⟩ := hrow i hlt
      refine ⟨k, (D i, Pl i), ?_⟩
      rw [← htr]
      congr 1
      apply List.ext_getElem?
      intro j
      by_cases hj : j < n
      · simp [hj, hat j hj, hcl]
      · simp [hj, hcl]
end Go.Proofs.YtbippdeahoehoaaGreat
namespace Go.Proofs.YtbippdeahoehoaaGreat
open Go.RowKit Sym Go.ChangeShapes Go.WideShapes Go.Deep
theorem row_of {W : World} {n len : Nat} {v : Value} {f : Nat → Nat → Value} (h : IsRows W n v len f) (B : List Value) : BlkSat B W v (.row len n f) := by
  rcases h with ⟨rfl, rfl⟩ | ⟨a, cap, rfl, h1, h2, h3⟩
  · exact ⟨none, 0, rfl, Nat.le_refl _, Nat.zero_le _, fun i j hi => absurd hi (Nat.not_lt_zero _)⟩
  · refine ⟨some a, cap, rfl, h1, h2, fun i j hi hj => ⟨a, rfl, ?_⟩⟩
    obtain ⟨g1, g2, g3⟩ := h3 i hi
    obtain ⟨bb, oo, ss⟩ := a
    simp only at g1
    subst g1
    have hg := g3 j hj
    have hg : W.cell? ⟨bb, oo + i * n + j, none⟩ = some (f i j) := hg
    rw [Nat.add_assoc] at hg
    rw [← hg]
    unfold Addr.add
    by_cases h0 : i * n + j = 0
    · rw [if_pos h0, h0]; rfl
    · rw [if_neg h0]
theorem row_congr {B : List Value} {w : World} {u : Value} {n sz : Nat} {f g : Nat → Nat → Value} (h : BlkSat B w u (.row n sz f)) (e : ∀ i j, i < n → j < sz → f i j = g i j) : BlkSat B w u (.row n sz g) := by
  obtain ⟨p, cap, h1, h2, h3, h4⟩ := h
  exact ⟨p, cap, h1, h2, h3, fun i j hi hj => by rw [← e i j hi hj]; exact h4 i j hi hj⟩
theorem mem_row {w : World} {u : Value} {n sz : Nat} {f : Nat → Nat → Value} (h : BlkSat [u] w u (.row n sz f)) : Mem w [] [.row n sz f] [u] w := by
  refine ⟨⟨rfl, fun k x v h1 h2 => ?_, fun k j b h1 h2 => ?_, fun k j b h1 h2 => ?_⟩, .refl _ _, fun k b h1 => ?_⟩
  · cases k with
    | zero => simp only [List.getElem?_cons_zero, Option.some.injEq] at h1 h2; subst h1; subst h2; exact h
    | succ k => simp at h1
  all_goals
    obtain ⟨x, v, g1, g2, g3, g4⟩ := h1
    cases k with
    | zero => simp only [List.getElem?_cons_zero, Option.some.injEq] at g1; subst g1; cases g2
    | succ k => simp at g1
theorem mem_row_congr {w0 w : World} {bs : List Nat} {H : List Blk} {B : List Value} {k n sz : Nat} {f g : Nat → Nat → Value} (h : Mem w0 bs H B w) (hk : H[k]? = some (.row n sz f)) (e : ∀ i j, i < n → j < sz → f i j = g i j) : Mem w0 bs (H.set k (.row n sz g)) B w := by
  have hkl : k < H.length := (List.getElem?_eq_some_iff.1 hk).1
  have ex : ∀ j b, ExBlk (H.set k (.row n sz g)) B j b → ExBlk H B j b := by
    rintro j b ⟨x, u, h1, h2, h3, h4⟩
    by_cases ej : k = j
    · subst ej
      rw [List.getElem?_set_self hkl] at h1
      simp only [Option.some.injEq] at h1
      subst h1; cases h2
    · rw [List.getElem?_set_ne ej] at h1
      exact ⟨x, u, h1, h2, h3, h4⟩
  have rd : ∀ j b, RdBlk (H.set k (.row n sz g)) B j b → RdBlk H B j b := by
    rintro j b ⟨m, z, f', u, h1, h2, h3, h4, h5⟩
    by_cases ej : k = j
    · subst ej
      rw [List.getElem?_set_self hkl] at h1
      simp only [Option.some.injEq, Blk.row.injEq] at h1
      obtain ⟨rfl, rfl, rfl⟩ := h1
      exact ⟨_, _, f, u, hk, h2, h3, h4, h5⟩
    · rw [List.getElem?_set_ne ej] at h1
      exact ⟨m, z, f', u, h1, h2, h3, h4, h5⟩
  refine ⟨⟨by rw [List.length_set]; exact h.sat.len, fun j x u h1 h2 => ?_, fun i j b h1 h2 => h.sat.sep i j b (ex _ _ h1) (ex _ _ h2), fun i j b h1 h2 => h.sat.far i j b (ex _ _ h1) (rd _ _ h2)⟩, h.keeps, fun j b h1 => h.good j b (ex _ _ h1)⟩
  by_cases ej : k = j
  · subst ej
    rw [List.getElem?_set_self hkl] at h1
    simp only [Option.some.injEq] at h1
    subst h1
    exact row_congr (h.sat.blk k _ u hk h2) e
  · rw [List.getElem?_set_ne ej] at h1
    exact h.sat.blk j x u h1 h2
end Go.Proofs.YtbippdeahoehoaaGreat
namespace Go.Proofs.YtbippdeahoehoaaGreat
open Go.RowKit Sym Sha
def rots : List Nat := [2, 6, 7, 11, 13, 17, 18, 19, 22, 25]
def rorM (x : Int) (n : Nat) : Int := IntKind.u32.wrap (((IntKind.u32.wrap (x * ((2 ^ (32 - n) : Nat) : Int)) % 4294967296).toNat ||| (x.fdiv ((2 ^ n : Nat) : Int) % 4294967296).toNat : Nat) : Int)
theorem rorM_eq (x : Int) (n : Nat) : rorM x n = rorN x n := by unfold rorM rorN; rw [Nat.or_comm]
theorem of_rots {p : Nat → Prop} (h2 : p 2) (h6 : p 6) (h7 : p 7) (h11 : p 11) (h13 : p 13) (h17 : p 17) (h18 : p 18) (h19 : p 19) (h22 : p 22) (h25 : p 25) : ∀ n, rots.any (Nat.beq n) = true → p n := by
  intro n h
  simp only [rots, List.any_cons, List.any_nil, Bool.or_false, Bool.or_eq_true, Nat.beq_eq] at h
  rcases h with rfl | rfl | rfl | rfl | rfl | rfl | rfl | rfl | rfl | rfl <;> assumption
theorem rotl_any (x : Int) : ∀ n, rots.any (Nat.beq n) = true → runV Tryz.prog (onlyS Tryz.prog SOct) noL Tryz.f455 [.int .u32 x, .int .i64 (-(n : Int))] = .leaf (.int .u32 (rorM x n)) :=
  of_rots (by kernel_rfl) (by kernel_rfl) (by kernel_rfl) (by kernel_rfl) (by kernel_rfl) (by kernel_rfl) (by kernel_rfl) (by kernel_rfl) (by kernel_rfl) (by kernel_rfl)
def tRotl : List Value → Option (List Prop × Value) | [.int .u32 x, .int .i64 (.negSucc m)] => (bif rots.any (Nat.beq (m + 1)) then some ([], .int .u32 (rorN x (m + 1))) else none) | _ => none
theorem rotl (x : Int) (n : Nat) (hn : rots.any (Nat.beq n) = true) (w : World) : Calls Tryz.prog 455 #[.int .u32 x, .int .i64 (-(n : Int))] w fun e w' => e = .returned (.int .u32 (rorN x n)) ∧ Below w.heap.size w w' := by
  refine calls_runV (onlyS_ok SOct_ok) follows Tryz.func455 (by kernel_rfl) (by kernel_rfl) noL_ok (rotl_any x n hn) ?_ w
  simp [T.ok, rorM_eq]
def SSha2 : Tab := addS 455 tRotl SOct
theorem SSha2_ok : TabOk Tryz.prog SSha2 := addS_ok SOct_ok (by kernel_rfl) (by
  intro xs p v h hp w
  unfold tRotl at h
  split at h
  · rename_i x m
    cases hb : rots.any (Nat.beq (m + 1))
    · rw [hb] at h; cases h
    · rw [hb, cond_true] at h
      simp only [Option.some.injEq, Prod.mk.injEq] at h
      obtain ⟨rfl, rfl⟩ := h
      exact rotl x (m + 1) hb w
  · cases h)
def tRor : List Value → Option (List Prop × Value) | [.int .u32 x, .int .i64 (.ofNat m)] => (bif rots.any (Nat.beq m) then some ([], .int .u32 (rorN x m)) else none) | _ => none
theorem ror_any (x : Int) : ∀ n, rots.any (Nat.beq n) = true → runV Tryz.prog (onlyS Tryz.prog SSha2) noL Tryz.f450 [.int .u32 x, .int .i64 (n : Int)] = .leaf (.int .u32 (rorN x n)) :=
  of_rots (by kernel_rfl) (by kernel_rfl) (by kernel_rfl) (by kernel_rfl) (by kernel_rfl) (by kernel_rfl) (by kernel_rfl) (by kernel_rfl) (by kernel_rfl) (by kernel_rfl)
theorem sha_ror (x : Int) (n : Nat) (hn : rots.any (Nat.beq n) = true) (w : World) : Calls Tryz.prog 450 #[.int .u32 x, .int .i64 (n : Int)] w fun e w' => e = .returned (.int .u32 (rorN x n)) ∧ Below w.heap.size w w' := by
  refine calls_runV (onlyS_ok SSha2_ok) follows Tryz.func450 (by kernel_rfl) (by kernel_rfl) noL_ok (ror_any x n hn) ?_ w
  simp [T.ok]
theorem tRor_ok {f : FuncId} (hc : ∀ (x : Int) (n : Nat), rots.any (Nat.beq n) = true → ∀ w, Calls Tryz.prog f #[.int .u32 x, .int .i64 (n : Int)] w fun e w' => e = .returned (.int .u32 (rorN x n)) ∧ Below w.heap.size w w') :
    ∀ xs p v, tRor xs = some (p, v) → (∀ q ∈ p, q) → ∀ w, Calls Tryz.prog f xs.toArray w fun e w' => e = .returned v ∧ Below w.heap.size w w' := by
  intro xs p v h hp w
  unfold tRor at h
  split at h
  · rename_i x m
    cases hb : rots.any (Nat.beq m)
    · rw [hb] at h; cases h
    · rw [hb, cond_true] at h
      simp only [Option.some.injEq, Prod.mk.injEq] at h
      obtain ⟨rfl, rfl⟩ := h
      exact hc x m hb w
  · cases h
theorem nums_at (k : IntKind) (l : List Int) (j : Nat) (h : j < l.length) : ((l.map (Value.int k)).drop j).take 1 = [.int k (intV (cellAt (l.map (Value.int k)) j))] ∧ intV (cellAt (l.map (Value.int k)) j) = nth l j := by
  have h1 : (l.map (Value.int k))[j]? = some (.int k l[j]) := by simp [h]
  have h2 : cellAt (l.map (Value.int k)) j = .int k l[j] := by simp [cellAt, List.getD_eq_getElem?_getD, h1]
  have h3 : nth l j = l[j] := by simp [nth, List.getD_eq_getElem?_getD, h]
  refine ⟨?_, by rw [h2, h3]; rfl⟩
  rw [h2]
  apply List.ext_getElem?
  intro i
  rw [List.getElem?_take]
  cases i with
  | zero => simp [h]; rfl
  | succ i => simp
set_option maxRecDepth 100000 in
theorem const_run (i : Int) : runV Tryz.prog (onlyS Tryz.prog SSha2) noL Tryz.f451 [.int .i64 i] = .chk ((0 : Int) ≤ i ∧ i < (↑64 : Int)) (.chk (0 + i.toNat * 1 < 64) (.leaf (Value.int IntKind.u32 (nth [(1116352408 : Int), (1899447441 : Int), (3049323471 : Int), (3921009573 : Int), (961987163 : Int), (1508970993 : Int), (2453635748 : Int), (2870763221 : Int), (3624381080 : Int), (310598401 : Int), (607225278 : Int), (1426881987 : Int), (1925078388 : Int), (2162078206 : Int), (2614888103 : Int), (3248222580 : Int), (3835390401 : Int), (4022224774 : Int), (264347078 : Int), (604807628 : Int), (770255983 : Int), (1249150122 : Int), (1555081692 : Int), (1996064986 : Int), (2554220882 : Int), (2821834349 : Int), (2952996808 : Int), (3210313671 : Int), (3336571891 : Int), (3584528711 : Int), (113926993 : Int), (338241895 : Int), (666307205 : Int), (773529912 : Int), (1294757372 : Int), (1396182291 : Int), (1695183700 : Int), (1986661051 : Int), (2177026350 : Int), (2456956037 : Int), (2730485921 : Int), (2820302411 : Int), (3259730800 : Int), (3345764771 : Int), (3516065817 : Int), (3600352804 : Int), (4094571909 : Int), (275423344 : Int), (430227734 : Int), (506948616 : Int), (659060556 : Int), (883997877 : Int), (958139571 : Int), (1322822218 : Int), (1537002063 : Int), (1747873779 : Int), (1955562222 : Int), (2024104815 : Int), (2227730452 : Int), (2361852424 : Int), (2428436474 : Int), (2756734187 : Int), (3204031479 : Int), (3329325298 : Int)] (0 + i.toNat * 1))))) := by kernel_rfl
def tKt : List Value → Option (List Prop × Value) | [.int .i64 i] => some ([0 ≤ i ∧ i < 64], .int .u32 (nth Kt i.toNat)) | _ => none
theorem sha_constant (i : Int) (hi : 0 ≤ i ∧ i < 64) (w : World) : Calls Tryz.prog 451 #[.int .i64 i] w fun e w' => e = .returned (.int .u32 (nth Kt i.toNat)) ∧ Below w.heap.size w w' := by
  refine calls_runV (onlyS_ok SSha2_ok) follows Tryz.func451 (by kernel_rfl) (by kernel_rfl) noL_ok (const_run i) ?_ w
  refine ⟨⟨hi.1, hi.2⟩, by omega, ?_⟩
  simp only [T.ok, Nat.zero_add, Nat.mul_one]
  rfl
def SSha3  : Tab := addS 451 tKt <| addS 450 tRor <| SSha2
theorem SSha3_ok : TabOk Tryz.prog (SSha3) := by
  refine addS_ok (addS_ok (SSha2_ok) (by kernel_rfl) ?_) (by kernel_rfl) ?_
  · exact tRor_ok sha_ror
  · (intro xs p v h hp w; unfold tKt at h; (split at h) <;> first | (cases h; done) | (simp only [Option.some.injEq, Prod.mk.injEq] at h; obtain ⟨rfl, rfl⟩ := h; exact sha_constant _ (hp _ (List.mem_cons_self ..)) w))
def z64 : List SV := List.replicate 64 (.v (.int .u32 0))
def schA (s : ByteArray) (i : Int) (h : Nat → Int) : St := ⟨[(0, some (.v (.string s))), (10, some (.v (.int .i64 i))), (3, some (.ptr 1 0)), (2, some (.ptr 0 0))], [.own z64, .arr .u32 64 h]⟩
def schB (i : Int) (h : Nat → Int) : St := ⟨[(5, some (.v (.int .i64 i))), (3, some (.ptr 1 0)), (2, some (.ptr 0 0))], [.own z64, .arr .u32 64 h]⟩
set_option maxRecDepth 100000 in
theorem schA_round (s : ByteArray) (i : Int) (h : Nat → Int) : roundM Tryz.prog (onlyS Tryz.prog SSha3) noL 68 0 (loopAt Tryz.f449 0) 2 [0, 10, 3, 2] [] [1] (schA s i h) = .ite (decide (i < (16 : Int))) (.chk ((0 : Int) ≤ IntKind.i64.wrap ((4 : Int) * i) ∧ IntKind.i64.wrap ((4 : Int) * i) ≤ IntKind.i64.wrap (IntKind.i64.wrap ((4 : Int) * i) + (4 : Int)) ∧ IntKind.i64.wrap (IntKind.i64.wrap ((4 : Int) * i) + (4 : Int)) ≤ (↑s.size : Int)) (.need ((s.extract (IntKind.i64.wrap ((4 : Int) * i)).toNat (IntKind.i64.wrap (IntKind.i64.wrap ((4 : Int) * i) + (4 : Int))).toNat).size ≤ 9223372036854775807) (.chk ((0 : Int) ≤ i ∧ i < (↑64 : Int)) (.chk (0 + i.toNat * 1 < 64) (.leaf (Ex.normal, St.mk [(0, some (.v (.string s))), (10, some (.v (.int .i64 (IntKind.i64.wrap (i + (1 : Int)))))), (3, some (.ptr 1 0)), (2, some (.ptr 0 0))] [.own [.v (.int .u32 0), .v (.int .u32 0), .v (.int .u32 0), .v (.int .u32 0), .v (.int .u32 0), .v (.int .u32 0), .v (.int .u32 0), .v (.int .u32 0), .v (.int .u32 0), .v (.int .u32 0), .v (.int .u32 0), .v (.int .u32 0), .v (.int .u32 0), .v (.int .u32 0), .v (.int .u32 0), .v (.int .u32 0), .v (.int .u32 0), .v (.int .u32 0), .v (.int .u32 0), .v (.int .u32 0), .v (.int .u32 0), .v (.int .u32 0), .v (.int .u32 0), .v (.int .u32 0), .v (.int .u32 0), .v (.int .u32 0), .v (.int .u32 0), .v (.int .u32 0), .v (.int .u32 0), .v (.int .u32 0), .v (.int .u32 0), .v (.int .u32 0), .v (.int .u32 0), .v (.int .u32 0), .v (.int .u32 0), .v (.int .u32 0), .v (.int .u32 0), .v (.int .u32 0), .v (.int .u32 0), .v (.int .u32 0), .v (.int .u32 0), .v (.int .u32 0), .v (.int .u32 0), .v (.int .u32 0), .v (.int .u32 0), .v (.int .u32 0), .v (.int .u32 0), .v (.int .u32 0), .v (.int .u32 0), .v (.int .u32 0), .v (.int .u32 0), .v (.int .u32 0), .v (.int .u32 0), .v (.int .u32 0), .v (.int .u32 0), .v (.int .u32 0), .v (.int .u32 0), .v (.int .u32 0), .v (.int .u32 0), .v (.int .u32 0), .v (.int .u32 0), .v (.int .u32 0), .v (.int .u32 0), .v (.int .u32 0)], Blk.arr IntKind.u32 64 fun j => bif j.beq (0 + i.toNat * 1) then (↑(Oct.val (s.extract (IntKind.i64.wrap ((4 : Int) * i)).toNat (IntKind.i64.wrap (IntKind.i64.wrap ((4 : Int) * i) + (4 : Int))).toNat).data.toList % 4294967296) : Int) else h j])))))) (.leaf (Ex.exit 0, St.mk [(0, some (.v (.string s))), (10, some (.v (.int .i64 i))), (3, some (.ptr 1 0)), (2, some (.ptr 0 0))] [.own [.v (.int .u32 0), .v (.int .u32 0), .v (.int .u32 0), .v (.int .u32 0), .v (.int .u32 0), .v (.int .u32 0), .v (.int .u32 0), .v (.int .u32 0), .v (.int .u32 0), .v (.int .u32 0), .v (.int .u32 0), .v (.int .u32 0), .v (.int .u32 0), .v (.int .u32 0), .v (.int .u32 0), .v (.int .u32 0), .v (.int .u32 0), .v (.int .u32 0), .v (.int .u32 0), .v (.int .u32 0), .v (.int .u32 0), .v (.int .u32 0), .v (.int .u32 0), .v (.int .u32 0), .v (.int .u32 0), .v (.int .u32 0), .v (.int .u32 0), .v (.int .u32 0), .v (.int .u32 0), .v (.int .u32 0), .v (.int .u32 0), .v (.int .u32 0), .v (.int .u32 0), .v (.int .u32 0), .v (.int .u32 0), .v (.int .u32 0), .v (.int .u32 0), .v (.int .u32 0), .v (.int .u32 0), .v (.int .u32 0), .v (.int .u32 0), .v (.int .u32 0), .v (.int .u32 0), .v (.int .u32 0), .v (.int .u32 0), .v (.int .u32 0), .v (.int .u32 0), .v (.int .u32 0), .v (.int .u32 0), .v (.int .u32 0), .v (.int .u32 0), .v (.int .u32 0), .v (.int .u32 0), .v (.int .u32 0), .v (.int .u32 0), .v (.int .u32 0), .v (.int .u32 0), .v (.int .u32 0), .v (.int .u32 0), .v (.int .u32 0), .v (.int .u32 0), .v (.int .u32 0), .v (.int .u32 0), .v (.int .u32 0)], Blk.arr IntKind.u32 64 h])) := by kernel_rfl
set_option maxRecDepth 100000 in
theorem schB_round (i : Int) (h : Nat → Int) : roundM Tryz.prog (onlyS Tryz.prog SSha3) noL 68 2 (loopAt Tryz.f449 1) 2 [5, 3, 2] [] [1] (schB i h) = .ite (decide (i < (64 : Int))) (.chk ((0 : Int) ≤ IntKind.i64.wrap (i - (15 : Int)) ∧ IntKind.i64.wrap (i - (15 : Int)) < (↑64 : Int)) (.chk (0 + (IntKind.i64.wrap (i - (15 : Int))).toNat * 1 < 64) (.chk ((0 : Int) ≤ IntKind.i64.wrap (i - (2 : Int)) ∧ IntKind.i64.wrap (i - (2 : Int)) < (↑64 : Int)) (.chk (0 + (IntKind.i64.wrap (i - (2 : Int))).toNat * 1 < 64) (.chk ((0 : Int) ≤ IntKind.i64.wrap (i - (16 : Int)) ∧ IntKind.i64.wrap (i - (16 : Int)) < (↑64 : Int)) (.chk (0 + (IntKind.i64.wrap (i - (16 : Int))).toNat * 1 < 64) (.chk ((0 : Int) ≤ IntKind.i64.wrap (i - (7 : Int)) ∧ IntKind.i64.wrap (i - (7 : Int)) < (↑64 : Int)) (.chk (0 + (IntKind.i64.wrap (i - (7 : Int))).toNat * 1 < 64) (.chk ((0 : Int) ≤ i ∧ i < (↑64 : Int)) (.chk (0 + i.toNat * 1 < 64) (.leaf (Ex.normal, St.mk [(5, some (.v (.int .i64 (IntKind.i64.wrap (i + (1 : Int)))))), (3, some (.ptr 1 0)), (2, some (.ptr 0 0))] [.own [.v (.int .u32 0), .v (.int .u32 0), .v (.int .u32 0), .v (.int .u32 0), .v (.int .u32 0), .v (.int .u32 0), .v (.int .u32 0), .v (.int .u32 0), .v (.int .u32 0), .v (.int .u32 0), .v (.int .u32 0), .v (.int .u32 0), .v (.int .u32 0), .v (.int .u32 0), .v (.int .u32 0), .v (.int .u32 0), .v (.int .u32 0), .v (.int .u32 0), .v (.int .u32 0), .v (.int .u32 0), .v (.int .u32 0), .v (.int .u32 0), .v (.int .u32 0), .v (.int .u32 0), .v (.int .u32 0), .v (.int .u32 0), .v (.int .u32 0), .v (.int .u32 0), .v (.int .u32 0), .v (.int .u32 0), .v (.int .u32 0), .v (.int .u32 0), .v (.int .u32 0), .v (.int .u32 0), .v (.int .u32 0), .v (.int .u32 0), .v (.int .u32 0), .v (.int .u32 0), .v (.int .u32 0), .v (.int .u32 0), .v (.int .u32 0), .v (.int .u32 0), .v (.int .u32 0), .v (.int .u32 0), .v (.int .u32 0), .v (.int .u32 0), .v (.int .u32 0), .v (.int .u32 0), .v (.int .u32 0), .v (.int .u32 0), .v (.int .u32 0), .v (.int .u32 0), .v (.int .u32 0), .v (.int .u32 0), .v (.int .u32 0), .v (.int .u32 0), .v (.int .u32 0), .v (.int .u32 0), .v (.int .u32 0), .v (.int .u32 0), .v (.int .u32 0), .v (.int .u32 0), .v (.int .u32 0), .v (.int .u32 0)], Blk.arr IntKind.u32 64 fun j => bif j.beq (0 + i.toNat * 1) then IntKind.u32.wrap (IntKind.u32.wrap (IntKind.u32.wrap (h (0 + (IntKind.i64.wrap (i - (16 : Int))).toNat * 1) + IntKind.u32.wrap (↑(BitVec.ofInt 32 (IntKind.u32.wrap (↑(BitVec.ofInt 32 (rorN (h (0 + (IntKind.i64.wrap (i - (15 : Int))).toNat * 1)) (nat_lit 7)) ^^^ BitVec.ofInt 32 (rorN (h (0 + (IntKind.i64.wrap (i - (15 : Int))).toNat * 1)) (nat_lit 18))).toNat : Int)) ^^^ BitVec.ofInt 32 ((h (0 + (IntKind.i64.wrap (i - (15 : Int))).toNat * 1)).fdiv (8 : Int))).toNat : Int)) + h (0 + (IntKind.i64.wrap (i - (7 : Int))).toNat * 1)) + IntKind.u32.wrap (↑(BitVec.ofInt 32 (IntKind.u32.wrap (↑(BitVec.ofInt 32 (rorN (h (0 + (IntKind.i64.wrap (i - (2 : Int))).toNat * 1)) (nat_lit 17)) ^^^ BitVec.ofInt 32 (rorN (h (0 + (IntKind.i64.wrap (i - (2 : Int))).toNat * 1)) (nat_lit 19))).toNat : Int)) ^^^ BitVec.ofInt 32 ((h (0 + (IntKind.i64.wrap (i - (2 : Int))).toNat * 1)).fdiv (1024 : Int))).toNat : Int)) else h j])))))))))))) (.leaf (Ex.exit 2, St.mk [(5, some (.v (.int .i64 i))), (3, some (.ptr 1 0)), (2, some (.ptr 0 0))] [.own [.v (.int .u32 0), .v (.int .u32 0), .v (.int .u32 0), .v (.int .u32 0), .v (.int .u32 0), .v (.int .u32 0), .v (.int .u32 0), .v (.int .u32 0), .v (.int .u32 0), .v (.int .u32 0), .v (.int .u32 0), .v (.int .u32 0), .v (.int .u32 0), .v (.int .u32 0), .v (.int .u32 0), .v (.int .u32 0), .v (.int .u32 0), .v (.int .u32 0), .v (.int .u32 0), .v (.int .u32 0), .v (.int .u32 0), .v (.int .u32 0), .v (.int .u32 0), .v (.int .u32 0), .v (.int .u32 0), .v (.int .u32 0), .v (.int .u32 0), .v (.int .u32 0), .v (.int .u32 0), .v (.int .u32 0), .v (.int .u32 0), .v (.int .u32 0), .v (.int .u32 0), .v (.int .u32 0), .v (.int .u32 0), .v (.int .u32 0), .v (.int .u32 0), .v (.int .u32 0), .v (.int .u32 0), .v (.int .u32 0), .v (.int .u32 0), .v (.int .u32 0), .v (.int .u32 0), .v (.int .u32 0), .v (.int .u32 0), .v (.int .u32 0), .v (.int .u32 0), .v (.int .u32 0), .v (.int .u32 0), .v (.int .u32 0), .v (.int .u32 0), .v (.int .u32 0), .v (.int .u32 0), .v (.int .u32 0), .v (.int .u32 0), .v (.int .u32 0), .v (.int .u32 0), .v (.int .u32 0), .v (.int .u32 0), .v (.int .u32 0), .v (.int .u32 0), .v (.int .u32 0), .v (.int .u32 0), .v (.int .u32 0)], Blk.arr IntKind.u32 64 h])) := by kernel_rfl
def hW (m : Nat → Int) (i : Nat) (j : Nat) : Int := if j < i then nth (schedL m 64) j else 0
def mW (s : ByteArray) : Nat → Int := word s.data.toList
theorem beq_nat (a b : Nat) : Nat.beq a b = decide (a = b) := by
  cases h : Nat.beq a b
  · have : a ≠ b := fun e => by rw [e, Nat.beq_refl] at h; cases h
    simp [this]
  · have := Nat.eq_of_beq_eq_true h; simp [this]
theorem hW_succ (m : Nat → Int) (i : Nat) (v : Int) (hv : i < 64 → v = nth (schedL m 64) i) (hi : i < 64) : (fun j => bif Nat.beq j (0 + i * 1) then v else hW m i j) = hW m (i + 1) := by
  funext j
  rw [beq_nat]
  unfold hW
  by_cases e : j = i
  · subst e
    simp [hv hi]
  · have : ¬ j = 0 + i * 1 := by omega
    simp only [this, decide_false, cond_false]
    by_cases h : j < i
    · simp [h, show j < i + 1 by omega]
    · simp [h, show ¬ j < i + 1 by omega]
theorem val4_lt (l : List UInt8) (h : l.length ≤ 4) : Oct.val l < 4294967296 := by
  have := Oct.val_lt l
  calc Oct.val l < 256 ^ l.length := this
    _ ≤ 256 ^ 4 := Nat.pow_le_pow_right (by omega) h
    _ = 4294967296 := by decide
theorem word_extract (s : ByteArray) (i : Nat) (hs : s.size = 64) (hi : i < 16) : (↑(Oct.val (s.extract (4 * i) (4 * i + 4)).data.toList % 4294967296) : Int) = mW s i := by
  have e : (s.extract (4 * i) (4 * i + 4)).data.toList = (s.data.toList.drop (4 * i)).take 4 := by
    rw [ByteArray.data_extract, Array.toList_extract]
    simp [List.extract_eq_take_drop]
  rw [e, Nat.mod_eq_of_lt (val4_lt _ (by simp; omega))]
  rfl
theorem schA_step (s : ByteArray) (hs : s.size = 64) : ∀ i : Nat, i ≤ 16 → i ≠ 16 → (roundM Tryz.prog (onlyS Tryz.prog SSha3) noL 68 0 (loopAt Tryz.f449 0) 2 [0, 10, 3, 2] [] [1] (schA s i (hW (mW s) i))).ok fun r => r.1 = .normal ∧ ∃ j, j ≤ 16 ∧ 16 - j < 16 - i ∧ r.2 = schA s (j : Nat) (hW (mW s) j) := by
  intro i hi hne
  rw [schA_round]
  have e1 : IntKind.i64.wrap (4 * (i : Int)) = 4 * (i : Int) := w64 _ (by omega) (by omega)
  have e2 : IntKind.i64.wrap (4 * (i : Int) + 4) = 4 * (i : Int) + 4 := w64 _ (by omega) (by omega)
  have e3 : IntKind.i64.wrap ((i : Int) + 1) = ((i + 1 : Nat) : Int) := by rw [w64 _ (by omega) (by omega)]; rfl
  have hsz : (s.extract (4 * i) (4 * i + 4)).size ≤ 9223372036854775807 := by simp [ByteArray.size_extract]; omega
  simp only [T.ok, e1, e2, e3, decide_eq_true_eq, decide_eq_false_iff_not]
  refine ⟨fun _ => ⟨by omega, ?_, by omega, by omega, trivial, i + 1, by omega, by omega, ?_⟩, fun h => by omega⟩
  · rw [show (4 * (i : Int)).toNat = 4 * i by omega, show (4 * (i : Int) + 4).toNat = 4 * i + 4 by omega]; exact hsz
  · rw [show (4 * (i : Int)).toNat = 4 * i by omega, show (4 * (i : Int) + 4).toNat = 4 * i + 4 by omega, Int.toNat_natCast]
    rw [hW_succ (mW s) i _ (fun _ => ?_) (by omega)]
    · rfl
    · rw [word_extract s i hs (by omega), schedL_nth _ 64 i (by omega), schedL_last, if_pos (by omega)]
theorem schB_step (m : Nat → Int) : ∀ i : Nat, (16 ≤ i ∧ i ≤ 64) → i ≠ 64 → (roundM Tryz.prog (onlyS Tryz.prog SSha3) noL 68 2 (loopAt Tryz.f449 1) 2 [5, 3, 2] [] [1] (schB i (hW m i))).ok fun r => r.1 = .normal ∧ ∃ j, (16 ≤ j ∧ j ≤ 64) ∧ 64 - j < 64 - i ∧ r.2 = schB (j : Nat) (hW m j) := by
  intro i hi hne
  rw [schB_round]
  have e1 : IntKind.i64.wrap ((i : Int) - 15) = ((i - 15 : Nat) : Int) := by rw [w64 _ (by omega) (by omega)]; omega
  have e2 : IntKind.i64.wrap ((i : Int) - 2) = ((i - 2 : Nat) : Int) := by rw [w64 _ (by omega) (by omega)]; omega
  have e3 : IntKind.i64.wrap ((i : Int) - 16) = ((i - 16 : Nat) : Int) := by rw [w64 _ (by omega) (by omega)]; omega
  have e4 : IntKind.i64.wrap ((i : Int) - 7) = ((i - 7 : Nat) : Int) := by rw [w64 _ (by omega) (by omega)]; omega
  have e5 : IntKind.i64.wrap ((i : Int) + 1) = ((i + 1 : Nat) : Int) := by rw [w64 _ (by omega) (by omega)]; rfl
  have hv : ∀ j, j < i → hW m i (0 + j * 1) = nth (schedL m i) j := by
    intro j hj
    unfold hW
    rw [show 0 + j * 1 = j by omega, if_pos hj, schedL_nth _ 64 j (by omega), schedL_nth _ i j hj]
  simp only [T.ok, e1, e2, e3, e4, e5, Int.toNat_natCast, decide_eq_true_eq, decide_eq_false_iff_not]
  refine ⟨fun _ => ⟨by omega, by omega, by omega, by omega, by omega, by omega, by omega, by omega, by omega, by omega, trivial, i + 1, by omega, by omega, ?_⟩, fun h => by omega⟩
  rw [hW_succ m i _ (fun _ => ?_) (by omega)]
  · rfl
  · rw [schedL_nth _ 64 i (by omega), schedL_last, if_neg (by omega), hv _ (by omega), hv _ (by omega), hv _ (by omega), hv _ (by omega)]
    rfl
def LSched (P : Program) (S : Tab) (fn : Func) : Nat → St → Option (T (Ex × St)) :=
  addL 0 (fun st => withStr st 0 fun s => .need (s.size = 64) (.need (st.H.length = 2) (.need (st.tidy 2 [0, 10, 3, 2] [] [1] = schA s (0 : Nat) (hW (mW s) 0)) ((roundM P (onlyS P S) noL 68 0 (loopAt fn 0) 2 [0, 10, 3, 2] [] [1] (closeAt [10] (schA s (16 : Nat) (hW (mW s) 16)))).bind (lastX 0)))))
  (addL 2 (fun st => withStr st 0 fun s => .need (st.H.length = 2) (.need (st.tidy 2 [5, 3, 2] [] [1] = schB (16 : Nat) (hW (mW s) 16)) ((roundM P (onlyS P S) noL 68 2 (loopAt fn 1) 2 [5, 3, 2] [] [1] (closeAt [5] (schB (64 : Nat) (hW (mW s) 64)))).bind (lastX 2)))) noL)
set_option maxHeartbeats 1000000 in
set_option maxRecDepth 100000 in
theorem schedule_run (s : ByteArray) : runV Tryz.prog (onlyS Tryz.prog SSha3) (LSched Tryz.prog SSha3 Tryz.f449) Tryz.f449 [.string s] = .need (s.size = 64) (.need (2 = 2) (.need (St.mk [(0, some (.v (.string s))), (10, some (.v (.int .i64 0))), (3, some (.ptr 1 0)), (2, some (.ptr 0 0))] [.own [.v (.int .u32 0), .v (.int .u32 0), .v (.int .u32 0), .v (.int .u32 0), .v (.int .u32 0), .v (.int .u32 0), .v (.int .u32 0), .v (.int .u32 0), .v (.int .u32 0), .v (.int .u32 0), .v (.int .u32 0), .v (.int .u32 0), .v (.int .u32 0), .v (.int .u32 0), .v (.int .u32 0), .v (.int .u32 0), .v (.int .u32 0), .v (.int .u32 0), .v (.int .u32 0), .v (.int .u32 0), .v (.int .u32 0), .v (.int .u32 0), .v (.int .u32 0), .v (.int .u32 0), .v (.int .u32 0), .v (.int .u32 0), .v (.int .u32 0), .v (.int .u32 0), .v (.int .u32 0), .v (.int .u32 0), .v (.int .u32 0), .v (.int .u32 0), .v (.int .u32 0), .v (.int .u32 0), .v (.int .u32 0), .v (.int .u32 0), .v (.int .u32 0), .v (.int .u32 0), .v (.int .u32 0), .v (.int .u32 0), .v (.int .u32 0), .v (.int .u32 0), .v (.int .u32 0), .v (.int .u32 0), .v (.int .u32 0), .v (.int .u32 0), .v (.int .u32 0), .v (.int .u32 0), .v (.int .u32 0), .v (.int .u32 0), .v (.int .u32 0), .v (.int .u32 0), .v (.int .u32 0), .v (.int .u32 0), .v (.int .u32 0), .v (.int .u32 0), .v (.int .u32 0), .v (.int .u32 0), .v (.int .u32 0), .v (.int .u32 0), .v (.int .u32 0), .v (.int .u32 0), .v (.int .u32 0), .v (.int .u32 0)], Blk.arr IntKind.u32 64 (nth [(0 : Int), (0 : Int), (0 : Int), (0 : Int), (0 : Int), (0 : Int), (0 : Int), (0 : Int), (0 : Int), (0 : Int), (0 : Int), (0 : Int), (0 : Int), (0 : Int), (0 : Int), (0 : Int), (0 : Int), (0 : Int), (0 : Int), (0 : Int), (0 : Int), (0 : Int), (0 : Int), (0 : Int), (0 : Int), (0 : Int), (0 : Int), (0 : Int), (0 : Int), (0 : Int), (0 : Int), (0 : Int), (0 : Int), (0 : Int), (0 : Int), (0 : Int), (0 : Int), (0 : Int), (0 : Int), (0 : Int), (0 : Int), (0 : Int), (0 : Int), (0 : Int), (0 : Int), (0 : Int), (0 : Int), (0 : Int), (0 : Int), (0 : Int), (0 : Int), (0 : Int), (0 : Int), (0 : Int), (0 : Int), (0 : Int), (0 : Int), (0 : Int), (0 : Int), (0 : Int), (0 : Int), (0 : Int), (0 : Int), (0 : Int)])] = schA s (0 : Int) (hW (mW s) 0)) (.need (2 = 2) (.need (St.mk [(5, some (.v (.int .i64 16))), (3, some (.ptr 1 0)), (2, some (.ptr 0 0))] [.own [.v (.int .u32 0), .v (.int .u32 0), .v (.int .u32 0), .v (.int .u32 0), .v (.int .u32 0), .v (.int .u32 0), .v (.int .u32 0), .v (.int .u32 0), .v (.int .u32 0), .v (.int .u32 0), .v (.int .u32 0), .v (.int .u32 0), .v (.int .u32 0), .v (.int .u32 0), .v (.int .u32 0), .v (.int .u32 0), .v (.int .u32 0), .v (.int .u32 0), .v (.int .u32 0), .v (.int .u32 0), .v (.int .u32 0), .v (.int .u32 0), .v (.int .u32 0), .v (.int .u32 0), .v (.int .u32 0), .v (.int .u32 0), .v (.int .u32 0), .v (.int .u32 0), .v (.int .u32 0), .v (.int .u32 0), .v (.int .u32 0), .v (.int .u32 0), .v (.int .u32 0), .v (.int .u32 0), .v (.int .u32 0), .v (.int .u32 0), .v (.int .u32 0), .v (.int .u32 0), .v (.int .u32 0), .v (.int .u32 0), .v (.int .u32 0), .v (.int .u32 0), .v (.int .u32 0), .v (.int .u32 0), .v (.int .u32 0), .v (.int .u32 0), .v (.int .u32 0), .v (.int .u32 0), .v (.int .u32 0), .v (.int .u32 0), .v (.int .u32 0), .v (.int .u32 0), .v (.int .u32 0), .v (.int .u32 0), .v (.int .u32 0), .v (.int .u32 0), .v (.int .u32 0), .v (.int .u32 0), .v (.int .u32 0), .v (.int .u32 0), .v (.int .u32 0), .v (.int .u32 0), .v (.int .u32 0), .v (.int .u32 0)], Blk.arr IntKind.u32 64 (hW (mW s) 16)] = schB (16 : Int) (hW (mW s) 16)) (.leaf (Value.agg (Array.mk [Value.int IntKind.u32 (hW (mW s) 64 0), Value.int IntKind.u32 (hW (mW s) 64 1), Value.int IntKind.u32 (hW (mW s) 64 2), Value.int IntKind.u32 (hW (mW s) 64 3), Value.int IntKind.u32 (hW (mW s) 64 4), Value.int IntKind.u32 (hW (mW s) 64 5), Value.int IntKind.u32 (hW (mW s) 64 6), Value.int IntKind.u32 (hW (mW s) 64 7), Value.int IntKind.u32 (hW (mW s) 64 8), Value.int IntKind.u32 (hW (mW s) 64 9), Value.int IntKind.u32 (hW (mW s) 64 10), Value.int IntKind.u32 (hW (mW s) 64 11), Value.int IntKind.u32 (hW (mW s) 64 12), Value.int IntKind.u32 (hW (mW s) 64 13), Value.int IntKind.u32 (hW (mW s) 64 14), Value.int IntKind.u32 (hW (mW s) 64 15), Value.int IntKind.u32 (hW (mW s) 64 16), Value.int IntKind.u32 (hW (mW s) 64 17), Value.int IntKind.u32 (hW (mW s) 64 18), Value.int IntKind.u32 (hW (mW s) 64 19), Value.int IntKind.u32 (hW (mW s) 64 20), Value.int IntKind.u32 (hW (mW s) 64 21), Value.int IntKind.u32 (hW (mW s) 64 22), Value.int IntKind.u32 (hW (mW s) 64 23), Value.int IntKind.u32 (hW (mW s) 64 24), Value.int IntKind.u32 (hW (mW s) 64 25), Value.int IntKind.u32 (hW (mW s) 64 26), Value.int IntKind.u32 (hW (mW s) 64 27), Value.int IntKind.u32 (hW (mW s) 64 28), Value.int IntKind.u32 (hW (mW s) 64 29), Value.int IntKind.u32 (hW (mW s) 64 30), Value.int IntKind.u32 (hW (mW s) 64 31), Value.int IntKind.u32 (hW (mW s) 64 32), Value.int IntKind.u32 (hW (mW s) 64 33), Value.int IntKind.u32 (hW (mW s) 64 34), Value.int IntKind.u32 (hW (mW s) 64 35), Value.int IntKind.u32 (hW (mW s) 64 36), Value.int IntKind.u32 (hW (mW s) 64 37), Value.int IntKind.u32 (hW (mW s) 64 38), Value.int IntKind.u32 (hW (mW s) 64 39), Value.int IntKind.u32 (hW (mW s) 64 40), Value.int IntKind.u32 (hW (mW s) 64 41), Value.int IntKind.u32 (hW (mW s) 64 42), Value.int IntKind.u32 (hW (mW s) 64 43), Value.int IntKind.u32 (hW (mW s) 64 44), Value.int IntKind.u32 (hW (mW s) 64 45), Value.int IntKind.u32 (hW (mW s) 64 46), Value.int IntKind.u32 (hW (mW s) 64 47), Value.int IntKind.u32 (hW (mW s) 64 48), Value.int IntKind.u32 (hW (mW s) 64 49), Value.int IntKind.u32 (hW (mW s) 64 50), Value.int IntKind.u32 (hW (mW s) 64 51), Value.int IntKind.u32 (hW (mW s) 64 52), Value.int IntKind.u32 (hW (mW s) 64 53), Value.int IntKind.u32 (hW (mW s) 64 54), Value.int IntKind.u32 (hW (mW s) 64 55), Value.int IntKind.u32 (hW (mW s) 64 56), Value.int IntKind.u32 (hW (mW s) 64 57), Value.int IntKind.u32 (hW (mW s) 64 58), Value.int IntKind.u32 (hW (mW s) 64 59), Value.int IntKind.u32 (hW (mW s) 64 60), Value.int IntKind.u32 (hW (mW s) 64 61), Value.int IntKind.u32 (hW (mW s) 64 62), Value.int IntKind.u32 (hW (mW s) 64 63)]))))))) := by kernel_rfl
theorem hW_zero (m : Nat → Int) : nth (List.replicate 64 0) = hW m 0 := by
  funext j
  unfold nth hW
  rw [if_neg (by omega), List.getD_eq_getElem?_getD, List.getElem?_replicate]
  split <;> rfl
theorem arrCells_congr {k : IntKind} {n : Nat} {f g : Nat → Int} (h : ∀ j, j < n → f j = g j) : arrCells k n f = arrCells k n g := by
  unfold arrCells
  congr 1
  apply List.map_congr_left
  intro j hj
  rw [h j (List.mem_range.1 hj)]
theorem sha_schedule (s : ByteArray) (hs : s.size = 64) (w : World) : Calls Tryz.prog 449 #[.string s] w fun e w' => e = .returned (.agg (arrCells .u32 64 (nth (sched s.data.toList)))) ∧ Below w.heap.size w w' := by
  refine calls_runV (onlyS_ok SSha3_ok) follows Tryz.func449 (by kernel_rfl) (by kernel_rfl) (two_loops (b1 := loopAt Tryz.f449 0) (b2 := loopAt Tryz.f449 1) (id1 := 0) (id2 := 2) (by kernel_rfl) (fun st t h => ?_) (fun st t h => ?_)) (schedule_run s) ?_ w
  · rw [addL_same h]
    refine .str fun s => .need fun hs => loop_cnt (onlyS_ok SSha3_ok) follows (by kernel_rfl) (noloops (by kernel_rfl)) (fun i : Nat => i ≤ 16) (fun i => schA s i (hW (mW s) i)) (fun i => 16 - i) 2 [0, 10, 3, 2] [] [1] 16 [10] (schA_step s hs) (Nat.zero_le _)
  · rw [addL_same (addL_other (by decide) h)]
    refine .str fun s => loop_cnt (onlyS_ok SSha3_ok) follows (by kernel_rfl) (noloops (by kernel_rfl)) (fun i : Nat => 16 ≤ i ∧ i ≤ 64) (fun i => schB i (hW (mW s) i)) (fun i => 64 - i) 2 [5, 3, 2] [] [1] 64 [5] (schB_step (mW s)) (by omega)
  · have e : arrCells .u32 64 (nth (sched s.data.toList)) = arrCells .u32 64 (hW (mW s) 64) := arrCells_congr fun j hj => by unfold hW; rw [if_pos hj]; rfl
    rw [e]
    simp only [T.ok, hs, true_and]
    refine ⟨?_, rfl, rfl⟩
    rw [show ([0, 0, 0, 0, 0, 0, 0, 0, 0, 0, 0, 0, 0, 0, 0, 0, 0, 0, 0, 0, 0, 0, 0, 0, 0, 0, 0, 0, 0, 0, 0, 0, 0, 0, 0, 0, 0, 0, 0, 0, 0, 0, 0, 0, 0, 0, 0, 0, 0, 0, 0, 0, 0, 0, 0, 0, 0, 0, 0, 0, 0, 0, 0, 0] : List Int) = List.replicate 64 0 from rfl, hW_zero (mW s)]
    rfl
def hv (h : H8) : Value := .agg #[.int .u32 h.a, .int .u32 h.b, .int .u32 h.c, .int .u32 h.d, .int .u32 h.e, .int .u32 h.f, .int .u32 h.g, .int .u32 h.h]
def hc (h : H8) : List SV := [.v (.int .u32 h.a), .v (.int .u32 h.b), .v (.int .u32 h.c), .v (.int .u32 h.d), .v (.int .u32 h.e), .v (.int .u32 h.f), .v (.int .u32 h.g), .v (.int .u32 h.h)]
def withH8 {α : Type} (st : St) (j : Nat) (k : H8 → T α) : T α := match st.H[j]? with
  | some (.own cells) => (match intsOf cells with
    | some (.u32, [a, b, c, d, e, f, g, h]) => k ⟨a, b, c, d, e, f, g, h⟩
    | _ => .stuck 162)
  | _ => .stuck 163
theorem runH8 {P : Program} {N : Nat} {c : Code} {st : St} {t : Nat} {k : H8 → T (Ex × St)} (h : ∀ s, RunOk P N c st (k s)) : RunOk P N c st (withH8 st t k) := by
  unfold withH8; split
  · split
    · exact h _
    · exact .stuck
  · exact .stuck
def z8 : List SV := List.replicate 8 (.v (.int .u32 0))
def stW (h v : H8) (ws : Nat → Int) (i : Int) : St := ⟨[(19, some (.v (.agg (arrCells .u32 64 ws)))), (20, some (.v (.int .i64 i))), (2, some (.ptr 0 0)), (4, some (.ptr 1 0)), (5, some (.ptr 2 0))], [.own (hc h), .own z8, .own (hc v)]⟩
def tSched : List Value → Option (List Prop × Value) | [.string s] => some ([s.size = 64], .agg (arrCells .u32 64 (nth (sched s.data.toList)))) | _ => none
def SSha4 : Tab := addS 449 tSched SSha3
theorem SSha4_ok : TabOk Tryz.prog SSha4 := addS_ok SSha3_ok (by kernel_rfl) (by (intro xs p v h hp w; unfold tSched at h; (split at h) <;> first | (cases h; done) | (simp only [Option.some.injEq, Prod.mk.injEq] at h; obtain ⟨rfl, rfl⟩ := h; exact sha_schedule _ (hp _ (List.mem_cons_self ..)) w)))
set_option maxRecDepth 100000 in
theorem stW_round (h v : H8) (ws : Nat → Int) (i : Int) : roundM Tryz.prog (onlyS Tryz.prog SSha4) noL 109 0 (loopAt Tryz.f442 0) 3 [19, 20, 2, 4, 5] [] [] (stW h v ws i) = .ite (decide (i < (64 : Int))) (.chk ((0 : Int) ≤ i ∧ i < (↑64 : Int)) (.chk (cellIs (arrCells IntKind.u32 64 ws) i.toNat (Ki.int IntKind.u32)) (.chk ((0 : Int) ≤ (0 : Int) ∧ (0 : Int) < (↑8 : Int)) (.chk ((0 : Int) ≤ (1 : Int) ∧ (1 : Int) < (↑8 : Int)) (.chk ((0 : Int) ≤ (2 : Int) ∧ (2 : Int) < (↑8 : Int)) (.chk ((0 : Int) ≤ (4 : Int) ∧ (4 : Int) < (↑8 : Int)) (.chk ((0 : Int) ≤ (5 : Int) ∧ (5 : Int) < (↑8 : Int)) (.chk ((0 : Int) ≤ (6 : Int) ∧ (6 : Int) < (↑8 : Int)) (.chk ((0 : Int) ≤ (7 : Int) ∧ (7 : Int) < (↑8 : Int)) (.need ((0 : Int) ≤ i ∧ i < (64 : Int)) (.chk ((0 : Int) ≤ (3 : Int) ∧ (3 : Int) < (↑8 : Int)) (.leaf (Ex.normal, St.mk [(19, some (SV.v (Value.agg (arrCells IntKind.u32 64 ws)))), (20, some (.v (.int .i64 (IntKind.i64.wrap (i + (1 : Int)))))), (2, some (.ptr 0 0)), (4, some (.ptr 1 0)), (5, some (.ptr 2 0))] [.own [.v (.int .u32 h.1), .v (.int .u32 h.2), .v (.int .u32 h.3), .v (.int .u32 h.4), .v (.int .u32 h.5), .v (.int .u32 h.6), .v (.int .u32 h.7), .v (.int .u32 h.8)], .own [.v (.int .u32 0), .v (.int .u32 0), .v (.int .u32 0), .v (.int .u32 0), .v (.int .u32 0), .v (.int .u32 0), .v (.int .u32 0), .v (.int .u32 0)], .own [.v (.int .u32 (IntKind.u32.wrap (IntKind.u32.wrap (IntKind.u32.wrap (IntKind.u32.wrap (IntKind.u32.wrap (v.8 + IntKind.u32.wrap (↑(Nat.bitwise bne (IntKind.u32.wrap (↑(Nat.bitwise bne (rorN v.5 6 % (4294967296 : Int)).toNat (rorN v.5 11 % (4294967296 : Int)).toNat) : Int) % (4294967296 : Int)).toNat (rorN v.5 25 % (4294967296 : Int)).toNat) : Int)) + IntKind.u32.wrap (↑(Nat.bitwise bne (IntKind.u32.wrap (↑(Nat.bitwise Bool.and (v.5 % (4294967296 : Int)).toNat (v.6 % (4294967296 : Int)).toNat) : Int) % (4294967296 : Int)).toNat (IntKind.u32.wrap (↑(Nat.bitwise Bool.and (IntKind.u32.wrap (↑(Nat.bitwise bne 4294967295 (v.5 % (4294967296 : Int)).toNat) : Int) % (4294967296 : Int)).toNat (v.7 % (4294967296 : Int)).toNat) : Int) % (4294967296 : Int)).toNat) : Int)) + nth [(1116352408 : Int), (1899447441 : Int), (3049323471 : Int), (3921009573 : Int), (961987163 : Int), (1508970993 : Int), (2453635748 : Int), (2870763221 : Int), (3624381080 : Int), (310598401 : Int), (607225278 : Int), (1426881987 : Int), (1925078388 : Int), (2162078206 : Int), (2614888103 : Int), (3248222580 : Int), (3835390401 : Int), (4022224774 : Int), (264347078 : Int), (604807628 : Int), (770255983 : Int), (1249150122 : Int), (1555081692 : Int), (1996064986 : Int), (2554220882 : Int), (2821834349 : Int), (2952996808 : Int), (3210313671 : Int), (3336571891 : Int), (3584528711 : Int), (113926993 : Int), (338241895 : Int), (666307205 : Int), (773529912 : Int), (1294757372 : Int), (1396182291 : Int), (1695183700 : Int), (1986661051 : Int), (2177026350 : Int), (2456956037 : Int), (2730485921 : Int), (2820302411 : Int), (3259730800 : Int), (3345764771 : Int), (3516065817 : Int), (3600352804 : Int), (4094571909 : Int), (275423344 : Int), (430227734 : Int), (506948616 : Int), (659060556 : Int), (883997877 : Int), (958139571 : Int), (1322822218 : Int), (1537002063 : Int), (1747873779 : Int), (1955562222 : Int), (2024104815 : Int), (2227730452 : Int), (2361852424 : Int), (2428436474 : Int), (2756734187 : Int), (3204031479 : Int), (3329325298 : Int)] i.toNat) + intV (cellOf (arrCells IntKind.u32 64 ws) i.toNat)) + IntKind.u32.wrap (IntKind.u32.wrap (↑(Nat.bitwise bne (IntKind.u32.wrap (↑(Nat.bitwise bne (rorN v.1 2 % (4294967296 : Int)).toNat (rorN v.1 13 % (4294967296 : Int)).toNat) : Int) % (4294967296 : Int)).toNat (rorN v.1 22 % (4294967296 : Int)).toNat) : Int) + IntKind.u32.wrap (↑(Nat.bitwise bne (IntKind.u32.wrap (↑(Nat.bitwise bne (IntKind.u32.wrap (↑(Nat.bitwise Bool.and (v.1 % (4294967296 : Int)).toNat (v.2 % (4294967296 : Int)).toNat) : Int) % (4294967296 : Int)).toNat (IntKind.u32.wrap (↑(Nat.bitwise Bool.and (v.1 % (4294967296 : Int)).toNat (v.3 % (4294967296 : Int)).toNat) : Int) % (4294967296 : Int)).toNat) : Int) % (4294967296 : Int)).toNat (IntKind.u32.wrap (↑(Nat.bitwise Bool.and (v.2 % (4294967296 : Int)).toNat (v.3 % (4294967296 : Int)).toNat) : Int) % (4294967296 : Int)).toNat) : Int))))), .v (.int .u32 v.1), .v (.int .u32 v.2), .v (.int .u32 v.3), .v (.int .u32 (IntKind.u32.wrap (v.4 + IntKind.u32.wrap (IntKind.u32.wrap (IntKind.u32.wrap (IntKind.u32.wrap (v.8 + IntKind.u32.wrap (↑(Nat.bitwise bne (IntKind.u32.wrap (↑(Nat.bitwise bne (rorN v.5 6 % (4294967296 : Int)).toNat (rorN v.5 11 % (4294967296 : Int)).toNat) : Int) % (4294967296 : Int)).toNat (rorN v.5 25 % (4294967296 : Int)).toNat) : Int)) + IntKind.u32.wrap (↑(Nat.bitwise bne (IntKind.u32.wrap (↑(Nat.bitwise Bool.and (v.5 % (4294967296 : Int)).toNat (v.6 % (4294967296 : Int)).toNat) : Int) % (4294967296 : Int)).toNat (IntKind.u32.wrap (↑(Nat.bitwise Bool.and (IntKind.u32.wrap (↑(Nat.bitwise bne 4294967295 (v.5 % (4294967296 : Int)).toNat) : Int) % (4294967296 : Int)).toNat (v.7 % (4294967296 : Int)).toNat) : Int) % (4294967296 : Int)).toNat) : Int)) + nth [(1116352408 : Int), (1899447441 : Int), (3049323471 : Int), (3921009573 : Int), (961987163 : Int), (1508970993 : Int), (2453635748 : Int), (2870763221 : Int), (3624381080 : Int), (310598401 : Int), (607225278 : Int), (1426881987 : Int), (1925078388 : Int), (2162078206 : Int), (2614888103 : Int), (3248222580 : Int), (3835390401 : Int), (4022224774 : Int), (264347078 : Int), (604807628 : Int), (770255983 : Int), (1249150122 : Int), (1555081692 : Int), (1996064986 : Int), (2554220882 : Int), (2821834349 : Int), (2952996808 : Int), (3210313671 : Int), (3336571891 : Int), (3584528711 : Int), (113926993 : Int), (338241895 : Int), (666307205 : Int), (773529912 : Int), (1294757372 : Int), (1396182291 : Int), (1695183700 : Int), (1986661051 : Int), (2177026350 : Int), (2456956037 : Int), (2730485921 : Int), (2820302411 : Int), (3259730800 : Int), (3345764771 : Int), (3516065817 : Int), (3600352804 : Int), (4094571909 : Int), (275423344 : Int), (430227734 : Int), (506948616 : Int), (659060556 : Int), (883997877 : Int), (958139571 : Int), (1322822218 : Int), (1537002063 : Int), (1747873779 : Int), (1955562222 : Int), (2024104815 : Int), (2227730452 : Int), (2361852424 : Int), (2428436474 : Int), (2756734187 : Int), (3204031479 : Int), (3329325298 : Int)] i.toNat) + intV (cellOf (arrCells IntKind.u32 64 ws) i.toNat))))), .v (.int .u32 v.5), .v (.int .u32 v.6), .v (.int .u32 v.7)]]))))))))))))) (.leaf (Ex.exit 0, St.mk [(19, some (SV.v (Value.agg (arrCells IntKind.u32 64 ws)))), (20, some (.v (.int .i64 i))), (2, some (.ptr 0 0)), (4, some (.ptr 1 0)), (5, some (.ptr 2 0))] [.own [.v (.int .u32 h.1), .v (.int .u32 h.2), .v (.int .u32 h.3), .v (.int .u32 h.4), .v (.int .u32 h.5), .v (.int .u32 h.6), .v (.int .u32 h.7), .v (.int .u32 h.8)], .own [.v (.int .u32 0), .v (.int .u32 0), .v (.int .u32 0), .v (.int .u32 0), .v (.int .u32 0), .v (.int .u32 0), .v (.int .u32 0), .v (.int .u32 0)], .own [.v (.int .u32 v.1), .v (.int .u32 v.2), .v (.int .u32 v.3), .v (.int .u32 v.4), .v (.int .u32 v.5), .v (.int .u32 v.6), .v (.int .u32 v.7), .v (.int .u32 v.8)]])) := by kernel_rfl
theorem arr_cell (k : IntKind) (n : Nat) (f : Nat → Int) (i : Nat) (h : i < n) : (arrCells k n f)[i]? = some (.int k (f i)) := by simp [arrCells, h]
theorem arr_cellOf (k : IntKind) (n : Nat) (f : Nat → Int) (i : Nat) (h : i < n) : cellOf (arrCells k n f) i = .int k (f i) := by
  unfold cellOf; rw [Array.getD_eq_getD_getElem?, arr_cell k n f i h]; rfl
theorem arr_cellIs (k : IntKind) (n : Nat) (f : Nat → Int) (i : Nat) (h : i < n) : cellIs (arrCells k n f) i (.int k) := by
  unfold cellIs; rw [arr_cell k n f i h, arr_cellOf k n f i h]; rfl
theorem stW_step (h : H8) (ws : List Int) : ∀ i : Nat, i ≤ 64 → i ≠ 64 → (roundM Tryz.prog (onlyS Tryz.prog SSha4) noL 109 0 (loopAt Tryz.f442 0) 3 [19, 20, 2, 4, 5] [] [] (stW h (rnds ws i h) (nth ws) i)).ok fun r => r.1 = .normal ∧ ∃ j, j ≤ 64 ∧ 64 - j < 64 - i ∧ r.2 = stW h (rnds ws j h) (nth ws) (j : Nat) := by
  intro i hi hne
  rw [stW_round]
  have e3 : IntKind.i64.wrap ((i : Int) + 1) = ((i + 1 : Nat) : Int) := by rw [w64 _ (by omega) (by omega)]; rfl
  have e4 : intV (cellOf (arrCells .u32 64 (nth ws)) i) = nth ws i := by rw [arr_cellOf _ _ _ _ (by omega)]; rfl
  simp only [T.ok, e3, Int.toNat_natCast, e4, decide_eq_true_eq, decide_eq_false_iff_not]
  refine ⟨fun _ => ⟨by omega, arr_cellIs _ _ _ _ (by omega), by omega, by omega, by omega, by omega, by omega, by omega, by omega, by omega, by omega, trivial, i + 1, by omega, by omega, ?_⟩, fun h => by omega⟩
  rfl
def LWith (P : Program) (S : Tab) (fn : Func) : Nat → St → Option (T (Ex × St)) :=
  addL 0 (fun st => withStr st 1 fun s => withH8 st 0 fun h => .need (st.H.length = 3) (.need (st.tidy 3 [19, 20, 2, 4, 5] [] [] = stW h (rnds (sched s.data.toList) 0 h) (nth (sched s.data.toList)) (0 : Nat)) ((roundM P (onlyS P S) noL 109 0 (loopAt fn 0) 3 [19, 20, 2, 4, 5] [] [] (closeAt [20] (stW h (rnds (sched s.data.toList) 64 h) (nth (sched s.data.toList)) (64 : Nat)))).bind (lastX 0))))
  (addL 2 (unrollB (runC P (onlyS P S) noL 109 (loopAt fn 1)) 2 9) noL)
set_option maxRecDepth 100000 in
theorem with_run (h : H8) (s : ByteArray) : runV Tryz.prog (onlyS Tryz.prog SSha4) (LWith Tryz.prog SSha4 Tryz.f442) Tryz.f442 [hv h, .string s] = .need (s.size = 64) (.need (3 = 3) (.need (St.mk [(19, some (SV.v (Value.agg (arrCells IntKind.u32 64 (nth (sched s.data.toList)))))), (20, some (.v (.int .i64 0))), (2, some (.ptr 0 0)), (4, some (.ptr 1 0)), (5, some (.ptr 2 0))] [.own [.v (.int .u32 h.1), .v (.int .u32 h.2), .v (.int .u32 h.3), .v (.int .u32 h.4), .v (.int .u32 h.5), .v (.int .u32 h.6), .v (.int .u32 h.7), .v (.int .u32 h.8)], .own [.v (.int .u32 0), .v (.int .u32 0), .v (.int .u32 0), .v (.int .u32 0), .v (.int .u32 0), .v (.int .u32 0), .v (.int .u32 0), .v (.int .u32 0)], .own [.v (.int .u32 h.1), .v (.int .u32 h.2), .v (.int .u32 h.3), .v (.int .u32 h.4), .v (.int .u32 h.5), .v (.int .u32 h.6), .v (.int .u32 h.7), .v (.int .u32 h.8)]] = stW h (rnds (sched s.1.toList) 0 h) (nth (sched s.data.toList)) (0 : Int)) (.chk ((0 : Int) ≤ (0 : Int) ∧ (0 : Int) < (↑8 : Int)) (.chk ((0 : Int) ≤ (0 : Int) ∧ (0 : Int) < (↑8 : Int)) (.chk ((0 : Int) ≤ (0 : Int) ∧ (0 : Int) < (↑8 : Int)) (.chk ((0 : Int) ≤ fastWrap IntKind.i64 ((0 : Int) + (1 : Int)) ∧ fastWrap IntKind.i64 ((0 : Int) + (1 : Int)) < (↑8 : Int)) (.chk ((0 : Int) ≤ fastWrap IntKind.i64 ((0 : Int) + (1 : Int)) ∧ fastWrap IntKind.i64 ((0 : Int) + (1 : Int)) < (↑8 : Int)) (.chk ((0 : Int) ≤ fastWrap IntKind.i64 ((0 : Int) + (1 : Int)) ∧ fastWrap IntKind.i64 ((0 : Int) + (1 : Int)) < (↑8 : Int)) (.chk ((0 : Int) ≤ fastWrap IntKind.i64 (fastWrap IntKind.i64 ((0 : Int) + (1 : Int)) + (1 : Int)) ∧ fastWrap IntKind.i64 (fastWrap IntKind.i64 ((0 : Int) + (1 : Int)) + (1 : Int)) < (↑8 : Int)) (.chk ((0 : Int) ≤ fastWrap IntKind.i64 (fastWrap IntKind.i64 ((0 : Int) + (1 : Int)) + (1 : Int)) ∧ fastWrap IntKind.i64 (fastWrap IntKind.i64 ((0 : Int) + (1 : Int)) + (1 : Int)) < (↑8 : Int)) (.chk ((0 : Int) ≤ fastWrap IntKind.i64 (fastWrap IntKind.i64 ((0 : Int) + (1 : Int)) + (1 : Int)) ∧ fastWrap IntKind.i64 (fastWrap IntKind.i64 ((0 : Int) + (1 : Int)) + (1 : Int)) < (↑8 : Int)) (.chk ((0 : Int) ≤ fastWrap IntKind.i64 (fastWrap IntKind.i64 (fastWrap IntKind.i64 ((0 : Int) + (1 : Int)) + (1 : Int)) + (1 : Int)) ∧ fastWrap IntKind.i64 (fastWrap IntKind.i64 (fastWrap IntKind.i64 ((0 : Int) + (1 : Int)) + (1 : Int)) + (1 : Int)) < (↑8 : Int)) (.chk ((0 : Int) ≤ fastWrap IntKind.i64 (fastWrap IntKind.i64 (fastWrap IntKind.i64 ((0 : Int) + (1 : Int)) + (1 : Int)) + (1 : Int)) ∧ fastWrap IntKind.i64 (fastWrap IntKind.i64 (fastWrap IntKind.i64 ((0 : Int) + (1 : Int)) + (1 : Int)) + (1 : Int)) < (↑8 : Int)) (.chk ((0 : Int) ≤ fastWrap IntKind.i64 (fastWrap IntKind.i64 (fastWrap IntKind.i64 ((0 : Int) + (1 : Int)) + (1 : Int)) + (1 : Int)) ∧ fastWrap IntKind.i64 (fastWrap IntKind.i64 (fastWrap IntKind.i64 ((0 : Int) + (1 : Int)) + (1 : Int)) + (1 : Int)) < (↑8 : Int)) (.chk ((0 : Int) ≤ fastWrap IntKind.i64 (fastWrap IntKind.i64 (fastWrap IntKind.i64 (fastWrap IntKind.i64 ((0 : Int) + (1 : Int)) + (1 : Int)) + (1 : Int)) + (1 : Int)) ∧ fastWrap IntKind.i64 (fastWrap IntKind.i64 (fastWrap IntKind.i64 (fastWrap IntKind.i64 ((0 : Int) + (1 : Int)) + (1 : Int)) + (1 : Int)) + (1 : Int)) < (↑8 : Int)) (.chk ((0 : Int) ≤ fastWrap IntKind.i64 (fastWrap IntKind.i64 (fastWrap IntKind.i64 (fastWrap IntKind.i64 ((0 : Int) + (1 : Int)) + (1 : Int)) + (1 : Int)) + (1 : Int)) ∧ fastWrap IntKind.i64 (fastWrap IntKind.i64 (fastWrap IntKind.i64 (fastWrap IntKind.i64 ((0 : Int) + (1 : Int)) + (1 : Int)) + (1 : Int)) + (1 : Int)) < (↑8 : Int)) (.chk ((0 : Int) ≤ fastWrap IntKind.i64 (fastWrap IntKind.i64 (fastWrap IntKind.i64 (fastWrap IntKind.i64 ((0 : Int) + (1 : Int)) + (1 : Int)) + (1 : Int)) + (1 : Int)) ∧ fastWrap IntKind.i64 (fastWrap IntKind.i64 (fastWrap IntKind.i64 (fastWrap IntKind.i64 ((0 : Int) + (1 : Int)) + (1 : Int)) + (1 : Int)) + (1 : Int)) < (↑8 : Int)) (.chk ((0 : Int) ≤ fastWrap IntKind.i64 (fastWrap IntKind.i64 (fastWrap IntKind.i64 (fastWrap IntKind.i64 (fastWrap IntKind.i64 ((0 : Int) + (1 : Int)) + (1 : Int)) + (1 : Int)) + (1 : Int)) + (1 : Int)) ∧ fastWrap IntKind.i64 (fastWrap IntKind.i64 (fastWrap IntKind.i64 (fastWrap IntKind.i64 (fastWrap IntKind.i64 ((0 : Int) + (1 : Int)) + (1 : Int)) + (1 : Int)) + (1 : Int)) + (1 : Int)) < (↑8 : Int)) (.chk ((0 : Int) ≤ fastWrap IntKind.i64 (fastWrap IntKind.i64 (fastWrap IntKind.i64 (fastWrap IntKind.i64 (fastWrap IntKind.i64 ((0 : Int) + (1 : Int)) + (1 : Int)) + (1 : Int)) + (1 : Int)) + (1 : Int)) ∧ fastWrap IntKind.i64 (fastWrap IntKind.i64 (fastWrap IntKind.i64 (fastWrap IntKind.i64 (fastWrap IntKind.i64 ((0 : Int) + (1 : Int)) + (1 : Int)) + (1 : Int)) + (1 : Int)) + (1 : Int)) < (↑8 : Int)) (.chk ((0 : Int) ≤ fastWrap IntKind.i64 (fastWrap IntKind.i64 (fastWrap IntKind.i64 (fastWrap IntKind.i64 (fastWrap IntKind.i64 ((0 : Int) + (1 : Int)) + (1 : Int)) + (1 : Int)) + (1 : Int)) + (1 : Int)) ∧ fastWrap IntKind.i64 (fastWrap IntKind.i64 (fastWrap IntKind.i64 (fastWrap IntKind.i64 (fastWrap IntKind.i64 ((0 : Int) + (1 : Int)) + (1 : Int)) + (1 : Int)) + (1 : Int)) + (1 : Int)) < (↑8 : Int)) (.chk ((0 : Int) ≤ fastWrap IntKind.i64 (fastWrap IntKind.i64 (fastWrap IntKind.i64 (fastWrap IntKind.i64 (fastWrap IntKind.i64 (fastWrap IntKind.i64 ((0 : Int) + (1 : Int)) + (1 : Int)) + (1 : Int)) + (1 : Int)) + (1 : Int)) + (1 : Int)) ∧ fastWrap IntKind.i64 (fastWrap IntKind.i64 (fastWrap IntKind.i64 (fastWrap IntKind.i64 (fastWrap IntKind.i64 (fastWrap IntKind.i64 ((0 : Int) + (1 : Int)) + (1 : Int)) + (1 : Int)) + (1 : Int)) + (1 : Int)) + (1 : Int)) < (↑8 : Int)) (.chk ((0 : Int) ≤ fastWrap IntKind.i64 (fastWrap IntKind.i64 (fastWrap IntKind.i64 (fastWrap IntKind.i64 (fastWrap IntKind.i64 (fastWrap IntKind.i64 ((0 : Int) + (1 : Int)) + (1 : Int)) + (1 : Int)) + (1 : Int)) + (1 : Int)) + (1 : Int)) ∧ fastWrap IntKind.i64 (fastWrap IntKind.i64 (fastWrap IntKind.i64 (fastWrap IntKind.i64 (fastWrap IntKind.i64 (fastWrap IntKind.i64 ((0 : Int) + (1 : Int)) + (1 : Int)) + (1 : Int)) + (1 : Int)) + (1 : Int)) + (1 : Int)) < (↑8 : Int)) (.chk ((0 : Int) ≤ fastWrap IntKind.i64 (fastWrap IntKind.i64 (fastWrap IntKind.i64 (fastWrap IntKind.i64 (fastWrap IntKind.i64 (fastWrap IntKind.i64 ((0 : Int) + (1 : Int)) + (1 : Int)) + (1 : Int)) + (1 : Int)) + (1 : Int)) + (1 : Int)) ∧ fastWrap IntKind.i64 (fastWrap IntKind.i64 (fastWrap IntKind.i64 (fastWrap IntKind.i64 (fastWrap IntKind.i64 (fastWrap IntKind.i64 ((0 : Int) + (1 : Int)) + (1 : Int)) + (1 : Int)) + (1 : Int)) + (1 : Int)) + (1 : Int)) < (↑8 : Int)) (.chk ((0 : Int) ≤ fastWrap IntKind.i64 (fastWrap IntKind.i64 (fastWrap IntKind.i64 (fastWrap IntKind.i64 (fastWrap IntKind.i64 (fastWrap IntKind.i64 (fastWrap IntKind.i64 ((0 : Int) + (1 : Int)) + (1 : Int)) + (1 : Int)) + (1 : Int)) + (1 : Int)) + (1 : Int)) + (1 : Int)) ∧ fastWrap IntKind.i64 (fastWrap IntKind.i64 (fastWrap IntKind.i64 (fastWrap IntKind.i64 (fastWrap IntKind.i64 (fastWrap IntKind.i64 (fastWrap IntKind.i64 ((0 : Int) + (1 : Int)) + (1 : Int)) + (1 : Int)) + (1 : Int)) + (1 : Int)) + (1 : Int)) + (1 : Int)) < (↑8 : Int)) (.chk ((0 : Int) ≤ fastWrap IntKind.i64 (fastWrap IntKind.i64 (fastWrap IntKind.i64 (fastWrap IntKind.i64 (fastWrap IntKind.i64 (fastWrap IntKind.i64 (fastWrap IntKind.i64 ((0 : Int) + (1 : Int)) + (1 : Int)) + (1 : Int)) + (1 : Int)) + (1 : Int)) + (1 : Int)) + (1 : Int)) ∧ fastWrap IntKind.i64 (fastWrap IntKind.i64 (fastWrap IntKind.i64 (fastWrap IntKind.i64 (fastWrap IntKind.i64 (fastWrap IntKind.i64 (fastWrap IntKind.i64 ((0 : Int) + (1 : Int)) + (1 : Int)) + (1 : Int)) + (1 : Int)) + (1 : Int)) + (1 : Int)) + (1 : Int)) < (↑8 : Int)) (.chk ((0 : Int) ≤ fastWrap IntKind.i64 (fastWrap IntKind.i64 (fastWrap IntKind.i64 (fastWrap IntKind.i64 (fastWrap IntKind.i64 (fastWrap IntKind.i64 (fastWrap IntKind.i64 ((0 : Int) + (1 : Int)) + (1 : Int)) + (1 : Int)) + (1 : Int)) + (1 : Int)) + (1 : Int)) + (1 : Int)) ∧ fastWrap IntKind.i64 (fastWrap IntKind.i64 (fastWrap IntKind.i64 (fastWrap IntKind.i64 (fastWrap IntKind.i64 (fastWrap IntKind.i64 (fastWrap IntKind.i64 ((0 : Int) + (1 : Int)) + (1 : Int)) + (1 : Int)) + (1 : Int)) + (1 : Int)) + (1 : Int)) + (1 : Int)) < (↑8 : Int)) (.leaf (Value.agg (Array.mk [Value.int IntKind.u32 (IntKind.u32.wrap ((rnds (sched s.data.toList) 64 (H8.mk h.a h.b h.c h.d h.e h.f h.g h.h)).1 + h.1)), Value.int IntKind.u32 (IntKind.u32.wrap ((rnds (sched s.data.toList) 64 (H8.mk h.a h.b h.c h.d h.e h.f h.g h.h)).2 + h.2)), Value.int IntKind.u32 (IntKind.u32.wrap ((rnds (sched s.data.toList) 64 (H8.mk h.a h.b h.c h.d h.e h.f h.g h.h)).3 + h.3)), Value.int IntKind.u32 (IntKind.u32.wrap ((rnds (sched s.data.toList) 64 (H8.mk h.a h.b h.c h.d h.e h.f h.g h.h)).4 + h.4)), Value.int IntKind.u32 (IntKind.u32.wrap ((rnds (sched s.data.toList) 64 (H8.mk h.a h.b h.c h.d h.e h.f h.g h.h)).5 + h.5)), Value.int IntKind.u32 (IntKind.u32.wrap ((rnds (sched s.data.toList) 64 (H8.mk h.a h.b h.c h.d h.e h.f h.g h.h)).6 + h.6)), Value.int IntKind.u32 (IntKind.u32.wrap ((rnds (sched s.data.toList) 64 (H8.mk h.a h.b h.c h.d h.e h.f h.g h.h)).7 + h.7)), Value.int IntKind.u32 (IntKind.u32.wrap ((rnds (sched s.data.toList) 64 (H8.mk h.a h.b h.c h.d h.e h.f h.g h.h)).8 + h.8))]))))))))))))))))))))))))))))) := by kernel_rfl
theorem sha_with (h : H8) (s : ByteArray) (hs : s.size = 64) (w : World) : Calls Tryz.prog 442 #[hv h, .string s] w fun e w' => e = .returned (hv (blockH h s.data.toList)) ∧ Below w.heap.size w w' := by
  refine calls_runV (onlyS_ok SSha4_ok) follows Tryz.func442 (by kernel_rfl) (by kernel_rfl) (two_loops (b1 := loopAt Tryz.f442 0) (b2 := loopAt Tryz.f442 1) (id1 := 0) (id2 := 2) (by kernel_rfl) (fun st t h => ?_) (fun st t h => ?_)) (with_run h s) ?_ w
  · rw [addL_same h]
    refine .str fun s => runH8 fun h => loop_cnt (onlyS_ok SSha4_ok) follows (by kernel_rfl) (noloops (by kernel_rfl)) (fun i : Nat => i ≤ 64) (fun i => stW h (rnds (sched s.data.toList) i h) (nth (sched s.data.toList)) i) (fun i => 64 - i) 3 [19, 20, 2, 4, 5] [] [] 64 [20] (stW_step h _) (Nat.zero_le _)
  · rw [addL_same (addL_other (by decide) h)]
    exact unroll_ok (onlyS_ok SSha4_ok) follows (by kernel_rfl) (noloops (by kernel_rfl)) 9 st
  · simp only [T.ok, hs, true_and]
    refine ⟨rfl, ?_⟩
    and_intros <;> first | decide | rfl
def LText (P : Program) (S : Tab) (fn : Func) : Nat → St → Option (T (Ex × St)) := addL 0 (unrollB (runC P (onlyS P S) noL fn.ntmps (loopAt fn 0)) 0 9) noL
set_option maxRecDepth 100000 in
theorem text_run (h : H8) : runV Tryz.prog (onlyS Tryz.prog SSha4) (LText Tryz.prog SSha4 Tryz.f418) Tryz.f418 [hv h] = .need ((0 : Int) ≤ (4 : Int) ∧ (4 : Int) ≤ (8 : Int) ∧ (ByteArray.mk #[]).size ≤ 1099511627776) (.need ((0 : Int) ≤ (4 : Int) ∧ (4 : Int) ≤ (8 : Int) ∧ (Oct.put (ByteArray.mk #[]) h.a (4 : Int)).size ≤ 1099511627776) (.need ((0 : Int) ≤ (4 : Int) ∧ (4 : Int) ≤ (8 : Int) ∧ (Oct.put (Oct.put (ByteArray.mk #[]) h.a (4 : Int)) h.b (4 : Int)).size ≤ 1099511627776) (.need ((0 : Int) ≤ (4 : Int) ∧ (4 : Int) ≤ (8 : Int) ∧ (Oct.put (Oct.put (Oct.put (ByteArray.mk #[]) h.a (4 : Int)) h.b (4 : Int)) h.c (4 : Int)).size ≤ 1099511627776) (.need ((0 : Int) ≤ (4 : Int) ∧ (4 : Int) ≤ (8 : Int) ∧ (Oct.put (Oct.put (Oct.put (Oct.put (ByteArray.mk #[]) h.a (4 : Int)) h.b (4 : Int)) h.c (4 : Int)) h.d (4 : Int)).size ≤ 1099511627776) (.need ((0 : Int) ≤ (4 : Int) ∧ (4 : Int) ≤ (8 : Int) ∧ (Oct.put (Oct.put (Oct.put (Oct.put (Oct.put (ByteArray.mk #[]) h.a (4 : Int)) h.b (4 : Int)) h.c (4 : Int)) h.d (4 : Int)) h.e (4 : Int)).size ≤ 1099511627776) (.need ((0 : Int) ≤ (4 : Int) ∧ (4 : Int) ≤ (8 : Int) ∧ (Oct.put (Oct.put (Oct.put (Oct.put (Oct.put (Oct.put (ByteArray.mk #[]) h.a (4 : Int)) h.b (4 : Int)) h.c (4 : Int)) h.d (4 : Int)) h.e (4 : Int)) h.f (4 : Int)).size ≤ 1099511627776) (.need ((0 : Int) ≤ (4 : Int) ∧ (4 : Int) ≤ (8 : Int) ∧ (Oct.put (Oct.put (Oct.put (Oct.put (Oct.put (Oct.put (Oct.put (ByteArray.mk #[]) h.a (4 : Int)) h.b (4 : Int)) h.c (4 : Int)) h.d (4 : Int)) h.e (4 : Int)) h.f (4 : Int)) h.g (4 : Int)).size ≤ 1099511627776) (.leaf (Value.string (Oct.put (Oct.put (Oct.put (Oct.put (Oct.put (Oct.put (Oct.put (Oct.put (ByteArray.mk (Array.mk [])) h.1 (4 : Int)) h.2 (4 : Int)) h.3 (4 : Int)) h.4 (4 : Int)) h.5 (4 : Int)) h.6 (4 : Int)) h.7 (4 : Int)) h.8 (4 : Int))))))))))) := by kernel_rfl
theorem sha_text (h : H8) (w : World) : Calls Tryz.prog 418 #[hv h] w fun e w' => e = .returned (.string (ba (txt h))) ∧ Below w.heap.size w w' := by
  refine calls_runV (onlyS_ok SSha4_ok) follows Tryz.func418 (by kernel_rfl) (by kernel_rfl) (one_loop (b := loopAt Tryz.f418 0) (id := 0) (by kernel_rfl) fun st t h => (by rw [addL_same h]; exact unroll_ok (onlyS_ok SSha4_ok) follows (by kernel_rfl) (noloops (by kernel_rfl)) 9 st)) (text_run h) ?_ w
  have z0 : (ByteArray.mk #[]).size = 0 := rfl
  simp only [T.ok, Oct.put_size, z0]
  and_intros
  all_goals first | decide | rfl
def tWith : List Value → Option (List Prop × Value)
  | [.agg ⟨[.int .u32 a, .int .u32 b, .int .u32 c, .int .u32 d, .int .u32 e, .int .u32 f, .int .u32 g, .int .u32 h]⟩, .string s] => some ([s.size = 64], hv (blockH ⟨a, b, c, d, e, f, g, h⟩ s.data.toList))
  | _ => none
def tText : List Value → Option (List Prop × Value)
  | [.agg ⟨[.int .u32 a, .int .u32 b, .int .u32 c, .int .u32 d, .int .u32 e, .int .u32 f, .int .u32 g, .int .u32 h]⟩] => some ([], .string (ba (txt ⟨a, b, c, d, e, f, g, h⟩)))
  | _ => none
def SSha5 : Tab := addS 442 tWith (addS 418 tText SSha4)
theorem SSha5_ok : TabOk Tryz.prog SSha5 := addS_ok (addS_ok SSha4_ok (by kernel_rfl) (by (intro xs p v h hp w; unfold tText at h; (split at h) <;> first | (cases h; done) | (simp only [Option.some.injEq, Prod.mk.injEq] at h; obtain ⟨rfl, rfl⟩ := h; exact sha_text _ w)))) (by kernel_rfl) (by (intro xs p v h hp w; unfold tWith at h; (split at h) <;> first | (cases h; done) | (simp only [Option.some.injEq, Prod.mk.injEq] at h; obtain ⟨rfl, rfl⟩ := h; exact sha_with _ _ (hp _ (List.mem_cons_self ..)) w)))
def stC (h : H8) (r : ByteArray) (n : Int) : List SV := [.v (.int .u32 h.a), .v (.int .u32 h.b), .v (.int .u32 h.c), .v (.int .u32 h.d), .v (.int .u32 h.e), .v (.int .u32 h.f), .v (.int .u32 h.g), .v (.int .u32 h.h), .v (.string r), .v (.int .i64 n)]
def stB (h : H8) (r : ByteArray) (n : Int) : St := ⟨[(0, some (.ptr 0 0))], [.own (stC h r n)]⟩
set_option maxRecDepth 100000 in
theorem stB_round (h : H8) (r : ByteArray) (n : Int) : roundM Tryz.prog (onlyS Tryz.prog SSha5) noL 29 0 (loopAt Tryz.f416 0) 1 [0] [] [] (stB h r n) = .ite (decide ((↑r.size : Int) ≥ (64 : Int))) (.chk ((0 : Int) ≤ (0 : Int) ∧ (0 : Int) ≤ (64 : Int) ∧ (64 : Int) ≤ (↑r.size : Int)) (.need ((r.extract 0 64).size = 64) (.chk ((0 : Int) ≤ (64 : Int) ∧ (64 : Int) ≤ (↑r.size : Int) ∧ (↑r.size : Int) ≤ (↑r.size : Int)) (.leaf (Ex.normal, St.mk [(0, some (.ptr 0 0))] [.own [.v (.int .u32 (blockH h (r.extract (Int.toNat (0 : Int)) (Int.toNat (64 : Int))).1.toList).a), .v (.int .u32 (blockH h (r.extract (Int.toNat (0 : Int)) (Int.toNat (64 : Int))).1.toList).b), .v (.int .u32 (blockH h (r.extract (Int.toNat (0 : Int)) (Int.toNat (64 : Int))).1.toList).c), .v (.int .u32 (blockH h (r.extract (Int.toNat (0 : Int)) (Int.toNat (64 : Int))).1.toList).d), .v (.int .u32 (blockH h (r.extract (Int.toNat (0 : Int)) (Int.toNat (64 : Int))).1.toList).e), .v (.int .u32 (blockH h (r.extract (Int.toNat (0 : Int)) (Int.toNat (64 : Int))).1.toList).f), .v (.int .u32 (blockH h (r.extract (Int.toNat (0 : Int)) (Int.toNat (64 : Int))).1.toList).g), .v (.int .u32 (blockH h (r.extract (Int.toNat (0 : Int)) (Int.toNat (64 : Int))).1.toList).h), .v (.string (r.extract 64 (↑r.size : Int).toNat)), .v (.int .i64 n)]]))))) (.leaf (Ex.exit 0, St.mk [(0, some (.ptr 0 0))] [.own [.v (.int .u32 h.a), .v (.int .u32 h.b), .v (.int .u32 h.c), .v (.int .u32 h.d), .v (.int .u32 h.e), .v (.int .u32 h.f), .v (.int .u32 h.g), .v (.int .u32 h.h), .v (.string r), .v (.int .i64 n)]])) := by kernel_rfl
def withSt {α : Type} (st : St) (j : Nat) (k : H8 → ByteArray → Int → T α) : T α := match st.H[j]? with
  | some (.own cells) => (match plains cells with
    | some [.int .u32 a, .int .u32 b, .int .u32 c, .int .u32 d, .int .u32 e, .int .u32 f, .int .u32 g, .int .u32 h, .string r, .int .i64 n] => k ⟨a, b, c, d, e, f, g, h⟩ r n
    | _ => .stuck 162)
  | _ => .stuck 163
theorem runSt {P : Program} {N : Nat} {c : Code} {st : St} {t : Nat} {k : H8 → ByteArray → Int → T (Ex × St)} (h : ∀ s r n, RunOk P N c st (k s r n)) : RunOk P N c st (withSt st t k) := by
  unfold withSt; split
  · split
    · exact h _ _ _
    · exact .stuck
  · exact .stuck
def stI (h : H8) (r : List UInt8) (n : Int) (i : Nat) : St := stB (foldB i h r) (ba (r.drop (64 * i))) n
theorem foldB_succ (i : Nat) (h : H8) (l : List UInt8) : foldB (i + 1) h l = blockH (foldB i h l) ((l.drop (64 * i)).take 64) := by rw [foldB_add]; rfl
theorem stI_step (h : H8) (r : List UInt8) (n : Int) : ∀ i : Nat, i ≤ r.length / 64 → i ≠ r.length / 64 → (roundM Tryz.prog (onlyS Tryz.prog SSha5) noL 29 0 (loopAt Tryz.f416 0) 1 [0] [] [] (stI h r n i)).ok fun x => x.1 = .normal ∧ ∃ j, j ≤ r.length / 64 ∧ r.length / 64 - j < r.length / 64 - i ∧ x.2 = stI h r n j := by
  intro i hi hne
  rw [stI, stB_round]
  have hl : (ba (r.drop (64 * i))).size = r.length - 64 * i := by rw [ba_len, List.length_drop]
  simp only [T.ok, hl, decide_eq_true_eq, decide_eq_false_iff_not, ba_extract, ba_len, List.length_take, List.length_drop]
  refine ⟨fun _ => ⟨by omega, by omega, by omega, trivial, i + 1, by omega, by omega, ?_⟩, fun h => by omega⟩
  have e1 : (List.take (Int.toNat 64 - Int.toNat 0) (List.drop (Int.toNat 0) (List.drop (64 * i) r))) = (r.drop (64 * i)).take 64 := rfl
  have e2 : ba (List.take (((r.length - 64 * i : Nat) : Int).toNat - 64) (List.drop 64 (List.drop (64 * i) r))) = ba (r.drop (64 * (i + 1))) := by
    rw [List.drop_drop, List.take_of_length_le (by rw [List.length_drop]; omega)]
    congr 2
  rw [e2]
  unfold stI
  rw [foldB_succ]
  rfl
def LBlocks (P : Program) (S : Tab) (fn : Func) : Nat → St → Option (T (Ex × St)) :=
  addL 0 (fun st => withSt st 0 fun h r n => .need (st.H.length = 1) (.need (st.tidy 1 [0] [] [] = stI h r.data.toList n 0) ((roundM P (onlyS P S) noL 29 0 (loopAt fn 0) 1 [0] [] [] (closeAt [] (stI h r.data.toList n (r.data.toList.length / 64)))).bind (lastX 0)))) noL
set_option maxRecDepth 100000 in
theorem blocks_run (h : H8) (r : ByteArray) (n : Int) : runF Tryz.prog (onlyS Tryz.prog SSha5) (LBlocks Tryz.prog SSha5 Tryz.f416) Tryz.f416 (Tryz.f416.body.getD .skip) [.ptr 0 0] [.own (stC h r n)] = .need (1 = 1) (.need (St.mk [(0, some (.ptr 0 0))] [.own [.v (.int .u32 h.a), .v (.int .u32 h.b), .v (.int .u32 h.c), .v (.int .u32 h.d), .v (.int .u32 h.e), .v (.int .u32 h.f), .v (.int .u32 h.g), .v (.int .u32 h.h), .v (.string r), .v (.int .i64 n)]] = stI h r.1.toList n 0) (.ite (decide ((↑(ba (List.drop (64 * r.1.toList.length.div 64) r.1.toList)).size : Int) ≥ (64 : Int))) (.chk ((0 : Int) ≤ (0 : Int) ∧ (0 : Int) ≤ (64 : Int) ∧ (64 : Int) ≤ (↑(ba (List.drop (64 * (r.data.toList.length / 64)) r.data.toList)).size : Int)) (.need (((ba (List.drop (64 * r.1.toList.length.div 64) r.1.toList)).extract 0 64).size = 64) (.chk ((0 : Int) ≤ (64 : Int) ∧ (64 : Int) ≤ (↑(ba (List.drop (64 * (r.data.toList.length / 64)) r.data.toList)).size : Int) ∧ (↑(ba (List.drop (64 * (r.data.toList.length / 64)) r.data.toList)).size : Int) ≤ (↑(ba (List.drop (64 * (r.data.toList.length / 64)) r.data.toList)).size : Int)) (T.stuck 39)))) (.leaf (SV.v (Value.tuple (Array.mk [])), [.own [.v (.int .u32 (foldB (r.1.toList.length.div 64) h r.1.toList).a), .v (.int .u32 (foldB (r.1.toList.length.div 64) h r.1.toList).b), .v (.int .u32 (foldB (r.1.toList.length.div 64) h r.1.toList).c), .v (.int .u32 (foldB (r.1.toList.length.div 64) h r.1.toList).d), .v (.int .u32 (foldB (r.1.toList.length.div 64) h r.1.toList).e), .v (.int .u32 (foldB (r.1.toList.length.div 64) h r.1.toList).f), .v (.int .u32 (foldB (r.1.toList.length.div 64) h r.1.toList).g), .v (.int .u32 (foldB (r.1.toList.length.div 64) h r.1.toList).h), .v (.string (ba (List.drop (64 * r.1.toList.length.div 64) r.1.toList))), .v (.int .i64 n)]])))) := by kernel_rfl
def fBlocks : List SV → List Blk → Option (T (SV × List Blk))
  | [.ptr 0 0], [.own [.v (.int .u32 a), .v (.int .u32 b), .v (.int .u32 c), .v (.int .u32 d), .v (.int .u32 e), .v (.int .u32 f), .v (.int .u32 g), .v (.int .u32 h), .v (.string r), .v (.int .i64 n)]] =>
    some (.leaf (.v (.tuple #[]), [.own (stC (foldA ⟨a, b, c, d, e, f, g, h⟩ r.data.toList) (ba (restA r.data.toList)) n)]))
  | _, _ => none
set_option maxRecDepth 100000 in
theorem fBlocks_ok : EntryOk Tryz.prog 416 fBlocks := by
  intro ss H t ht bs B w vs hm hv Qs hq
  unfold fBlocks at ht
  split at ht
  · rename_i a b c d e f g h r n
    simp only [Option.some.injEq] at ht
    subst ht
    refine tree_ok (onlyS_ok SSha5_ok) follows Tryz.func416 (by kernel_rfl) (by kernel_rfl) (one_loop (b := loopAt Tryz.f416 0) (id := 0) (by kernel_rfl) fun st t h => ?_) (blocks_run ⟨a, b, c, d, e, f, g, h⟩ r n) (fun Qs h => ?_) hm hv hq
    · rw [addL_same h]
      exact runSt fun h r n => loop_cnt (onlyS_ok SSha5_ok) follows (by kernel_rfl) (noloops (by kernel_rfl)) (fun i : Nat => i ≤ r.data.toList.length / 64) (fun i => stI h r.data.toList n i) (fun i => r.data.toList.length / 64 - i) 1 [0] [] [] (r.data.toList.length / 64) [] (stI_step h _ n) (Nat.zero_le _)
    · have hl : (ba (List.drop (64 * (r.data.toList.length / 64)) r.data.toList)).size < 64 := by rw [ba_len, List.length_drop]; omega
      refine ⟨rfl, ?_, (fun e => ?_), fun _ => h⟩
      · show stB _ r n = stI _ _ _ 0
        unfold stI
        rw [Nat.mul_zero, List.drop_zero, ba_of]; rfl
      · have e := of_decide_eq_true e
        have hl' : (ba (List.drop (64 * (r.data.toList.length / 64)) r.data.toList)).size ≥ 64 := by exact Int.ofNat_le.1 e
        omega
  · cases ht
def FSha1 : LTab := addF 416 fBlocks noF
theorem FSha1_ok : LOk Tryz.prog FSha1 := addF_ok noF_ok (by kernel_rfl) fBlocks_ok
end Go.Proofs.YtbippdeahoehoaaGreat
namespace Go.Proofs.YtbippdeahoehoaaGreat
open Go.RowKit Sym Go.ChangeShapes Go.WideShapes Go.ChangeMaps Go.Deep
structure Op where
  kind : Int
  val : ByteArray
def Op.c (o : Op) : Nat → Value
  | 0 => .int .i64 o.kind
  | 1 => .string o.val
  | _ => undef
def opF (f : Nat → Nat → Value) (i : Nat) : Op := ⟨intV (f i 0), strV (f i 1)⟩
def AllOp (n : Nat) (f : Nat → Nat → Value) : Prop := ∀ i, i < n → ∀ j, j < 2 → f i j = (opF f i).c j
def Few (n : Nat) (g : Nat → Op) : Prop := n ≤ 1000 ∧ ∀ i, i < n → (g i).val.size ≤ 1000000
def sizeO (o : Op) : Int := if o.kind ≤ 31 then 1 else 2 + (o.val.size : Int)
def sizeL (g : Nat → Op) : Nat → Int
  | 0 => 0
  | i + 1 => sizeL g i + sizeO (g i)
theorem sizeO_bd (o : Op) : 1 ≤ sizeO o ∧ sizeO o ≤ 2 + (o.val.size : Int) := by unfold sizeO; split <;> omega
def rightO (o : Op) : Int := if o.kind ≤ 0 then 7 else if o.kind > 255 then 7 else if o.kind ≤ 31 ∧ ¬ o.val.size = 0 then 11 else if o.val.size > 253 then 11 else 0
def badO (g : Nat → Op) (i : Nat) : Bool := !decide (rightO (g i) = 0)
def mandO (n : Nat) (g : Nat → Op) (i : Nat) : Bool := decide ((g i).kind = 1) && (decide (i + 1 = n) || decide ((g (i + 1)).kind = 1))
def badE (n : Nat) (g : Nat → Op) : Nat := firstOf (badO g) n 0
def mandE (n : Nat) (g : Nat → Op) : Nat := firstOf (mandO n g) n 0
def chkO (n : Nat) (g : Nat → Op) : Int := if badE n g < n then rightO (g (badE n g)) else if mandE n g < n then 4 else if sizeL g n > 400 then 11 else 0
theorem firstOf_le (p : Nat → Bool) (n : Nat) : firstOf p n 0 ≤ n ∧ (∀ j, j < firstOf p n 0 → p j = false) ∧ (firstOf p n 0 < n → p (firstOf p n 0) = true) := by
  obtain ⟨-, he, h1, h2⟩ := firstOf_spec p n 0
  rw [Nat.zero_add] at he h2
  exact ⟨he, fun j hj => h1 j (Nat.zero_le _) hj, h2⟩
theorem op_row {w : World} {v : Value} {n : Nat} {f : Nat → Nat → Value} (h : ∀ B, BlkSat B w v (.row n 2 f)) (ho : AllOp n f) : ∀ B, BlkSat B w v (.row n 2 fun i j => (opF f i).c j) := fun B => row_congr (h B) fun i j hi hj => ho i hi j hj
end Go.Proofs.YtbippdeahoehoaaGreat
namespace Go.Proofs.YtbippdeahoehoaaGreat
open Go.RowKit Sym Go.ChangeShapes Go.WideShapes Go.ChangeMaps
theorem w64i {z : Int} (h0 : -9223372036854775808 ≤ z) (h1 : z < 9223372036854775808) : IntKind.i64.wrap z = z := IntWalk.i64_in _ (by omega)
end Go.Proofs.YtbippdeahoehoaaGreat
namespace Go.Proofs.YtbippdeahoehoaaGreat
open Go.RowKit Sym Go.ChangeShapes Go.WideShapes Go.ChangeMaps
end Go.Proofs.YtbippdeahoehoaaGreat
namespace Go.Proofs.YtbippdeahoehoaaGreat
open Go.RowKit Sym Go.ChangeShapes Go.WideShapes Go.ChangeMaps
theorem rightO_ok {o : Op} (h : rightO o = 0) : 0 < o.kind ∧ o.kind ≤ 255 ∧ (o.kind ≤ 31 → o.val.size = 0) ∧ o.val.size ≤ 253 := by
  unfold rightO at h
  split at h
  · cases h
  · split at h
    · cases h
    · split at h
      · cases h
      · split at h
        · cases h
        · rename_i a b c d
          refine ⟨by omega, by omega, fun hk => ?_, by omega⟩
          by_cases e : o.val.size = 0
          · exact e
          · exact absurd ⟨hk, e⟩ c
theorem badE_spec (n : Nat) (g : Nat → Op) : badE n g ≤ n ∧ (∀ j, j < badE n g → rightO (g j) = 0) ∧ (badE n g < n → ¬ rightO (g (badE n g)) = 0) := by
  obtain ⟨h1, h2, h3⟩ := firstOf_le (badO g) n
  refine ⟨h1, fun j hj => by simpa [badO] using h2 j hj, fun h => by have := h3 h; simpa [badO, badE] using this⟩
end Go.Proofs.YtbippdeahoehoaaGreat
namespace Go.Proofs.YtbippdeahoehoaaGreat
open Go.RowKit Sym Go.ChangeShapes Go.WideShapes Go.ChangeMaps
end Go.Proofs.YtbippdeahoehoaaGreat
namespace Go.Proofs.YtbippdeahoehoaaGreat
open Go.RowKit Sym Go.ChangeShapes Go.WideShapes Go.ChangeMaps
def optZ : Value := .agg #[.int .i64 0, .string ⟨#[]⟩]
theorem opt_info : (Tryz.prog.info? 229).map (fun i => (i.zero, i.size, i.bytes)) = some (some optZ, 2, 24) := by kernel_rfl
set_option maxRecDepth 100000 in
set_option maxHeartbeats 4000000 in
theorem grow_nil (n : Nat) (hn : 0 < n) (hb : n * 24 ≤ 140737488355328) (w : World) : Calls Tryz.prog 333 #[.slice none 0 0, .int .i64 n] w fun e w' =>
    e = .returned (.slice (some ⟨w.heap.size, 0, none⟩) 0 (grownCap w n 0 229)) ∧ w' = w.drew.alloc (.cells (Builtin.zeroCells optZ.cells n ++ Builtin.zeroCells optZ.cells (grownCap w n 0 229 - n)) 229) := by
  obtain ⟨i, hi, hz, hs, hy⟩ := info_parts opt_info
  have hr := fun ty => Lib.run_append_nil_zeros w 108 3 ty 229 i optZ .i64 .i64 Tryz.underlying108 Tryz.underlying3 hi hz n hn (by rw [hs]; decide) (by omega) (by rw [hy]; omega)
  have hGn : n ≤ grownCap w n 0 229 := grownCap_ge w _ _ _
  have hG63 : grownCap w n 0 229 ≤ 9223372036854775807 := by
    have := grownCap_le_maxLen w n 0 229 (by unfold maxLen; omega)
    unfold maxLen at this
    omega
  generalize grownCap w n 0 229 = G at hr hGn hG63 ⊢
  have h2 : wrap64 ((0 : Int) - 0) = 0 := by unfold wrap64; omega
  have h3 : wrap64 ((n : Int) - 0) = n := by unfold wrap64; omega
  have h4 : wrap64 (n : Int) = n := by unfold wrap64; omega
  have h5 : wrap64 (0 : Int) = 0 := by unfold wrap64; omega
  generalize Builtin.zeroCells optZ.cells n = A1 at hr ⊢
  generalize Builtin.zeroCells optZ.cells (G - n) = A2 at hr ⊢
  go_enter Tryz.func333, Tryz.ntmps333
  go_wp2_with (at_builtin; refine Lib.wpList_append_run _ rfl _ _ _ _ rfl _ _ rfl rfl _ _ (hr _) ?_)
  all_goals (go_ret; exact ⟨rfl, rfl⟩)
set_option maxRecDepth 100000 in
theorem grow_zero (w : World) : Calls Tryz.prog 333 #[.slice none 0 0, .int .i64 0] w fun e w' => e = .returned (.slice none 0 0) ∧ w' = w := by
  have h2 : wrap64 ((0 : Int) - 0) = 0 := by unfold wrap64; omega
  have h5 : wrap64 (0 : Int) = 0 := by unfold wrap64; omega
  go_enter Tryz.func333, Tryz.ntmps333
  go_wp2
  go_ret
  exact ⟨rfl, rfl⟩
def fGrowO : List SV → List Blk → Option (T (SV × List Blk))
  | [.v (.slice none 0 0), .v (.int .i64 z)], [] => some (.need (0 ≤ z ∧ z * 24 ≤ 140737488355328) (.leaf (.ref 0, [.vec true 229 2 0 []])))
  | _, _ => none
theorem fGrowO_ok : EntryOk Tryz.prog 333 fGrowO := by
  intro ss H t h bs B w vs hm hv Qs hq
  unfold fGrowO at h
  split at h
  · rename_i z
    simp only [Option.some.injEq] at h
    subst h
    obtain ⟨⟨h0, h1⟩, hq⟩ := hq
    obtain ⟨x0, r0, e0, v0, rfl⟩ := tos_cons hv
    obtain ⟨x1, r1, e1, v1, rfl⟩ := tos_cons v0
    obtain rfl := tos_nil v1
    simp only [SV.to, Option.some.injEq] at e0 e1
    subst e0 e1
    obtain ⟨n, rfl⟩ : ∃ n : Nat, z = n := ⟨z.toNat, by omega⟩
    have hB : B = [] := List.length_eq_zero_iff.1 (by simpa using hm.sat.len)
    subst hB
    by_cases hn : n = 0
    · subst hn
      refine (grow_zero w).mono ?_
      rintro e w' ⟨rfl, rfl⟩
      refine ⟨_, _, [.slice none 0 0], _, hq, List.nil_prefix, rfl, rfl, ?_⟩
      exact hm.add (y := .vec true 229 2 0 []) (u := .slice none 0 0) ⟨rfl, rfl, rfl, Nat.le_refl _, fun _ _ _ => rfl⟩ (fun b hb => by cases hb) (.inl ⟨rfl, .inl ⟨rfl, rfl⟩⟩)
    · refine (grow_nil n (by omega) (by omega) w).mono ?_
      rintro e w' ⟨rfl, rfl⟩
      refine ⟨_, _, [.slice (some ⟨w.heap.size, 0, none⟩) 0 (grownCap w n 0 229)], _, hq, List.nil_prefix, rfl, rfl, ?_⟩
      have hGn : n ≤ grownCap w n 0 229 := grownCap_ge w _ _ _
      have hGm := grownCap_le_maxLen w n 0 229 (by unfold maxLen; omega)
      generalize grownCap w n 0 229 = G at hGn hGm ⊢
      have hz : ∀ m, (Builtin.zeroCells optZ.cells m).size = m * 2 := fun m => by simp [Builtin.zeroCells, optZ, Value.cells]
      have hb0 : Below w.heap.size w (w.drew.alloc (.cells (Builtin.zeroCells optZ.cells n ++ Builtin.zeroCells optZ.cells (G - n)) 229)) := ((Below.refl _ w).drew).alloc (Nat.le_refl _) _
      refine hm.add (y := .vec true 229 2 0 []) (below_grown hb0) (fun b hb => by simp only [blockOf, Option.some.injEq] at hb; omega) (.inl ⟨rfl, .inr ⟨w.heap.size, G, _, rfl, Nat.zero_le _, heap_alloc_new w.drew _, Nat.zero_le _, hGm, ?_, by simp⟩⟩)
      rw [Array.size_append, hz, hz]; omega
  · cases h
end Go.Proofs.YtbippdeahoehoaaGreat
namespace Go.Proofs.YtbippdeahoehoaaGreat.Head
def known (k : Int) : Bool := decide (0 ≤ k ∧ k ≤ 9)
def acks (k : Int) : Bool := decide (k = 1 ∨ (3 ≤ k ∧ k ≤ 9))
def bears (k : Int) : Bool := decide (k = 0 ∨ k = 1 ∨ k = 2 ∨ k = 4)
def more (k : Int) : Bool := decide (k = 0 ∨ k = 1 ∨ k = 7)
def brief (k : Int) : Bool := decide (k = 2 ∨ k = 3 ∨ k = 4)
def size (k : Int) (long : Bool) : Int :=
  if known k = false ∨ (long = false ∧ brief k = false) then 0
  else (if long then 16 else 12) + (if acks k then (if long then 8 else 4) else 0) + (if more k then 4 else 0)
structure H where
  src : Int
  dst : Int
  words : Int
  ccval : Int
  cover : Int
  sum : Int
  kind : Int
  long : Bool
  seq : Int
  deriving DecidableEq
def wi (n m : Int) : Bool := decide (0 ≤ n ∧ n ≤ m)
def most (long : Bool) : Int := if long = true then 281474976710656 else 16777216
def check (h : H) : Int :=
  if known h.kind = false then 7 else if h.long = false ∧ brief h.kind = false then 4
  else if wi h.src 65535 = false ∨ wi h.dst 65535 = false ∨ wi h.sum 65535 = false ∨ wi h.ccval 15 = false ∨ wi h.cover 15 = false then 3
  else if wi h.seq (most h.long - 1) = false ∨ wi h.words 255 = false then 3
  else if 4 * h.words < size h.kind h.long then 1 else 0
def put (h : H) : List UInt8 :=
  Oct.be (Oct.u64 h.src) 2 ++ Oct.be (Oct.u64 h.dst) 2 ++ Oct.be (Oct.u64 h.words) 1 ++ Oct.be (Oct.u64 (16 * h.ccval + h.cover)) 1 ++ Oct.be (Oct.u64 h.sum) 2 ++
    (if h.long = true then Oct.be (Oct.u64 (2 * h.kind + 1)) 1 ++ [0] ++ Oct.be (Oct.u64 h.seq) 6 else Oct.be (Oct.u64 (2 * h.kind)) 1 ++ Oct.be (Oct.u64 h.seq) 3)
end Go.Proofs.YtbippdeahoehoaaGreat.Head
namespace Go.Proofs.YtbippdeahoehoaaGreat.Head
end Go.Proofs.YtbippdeahoehoaaGreat.Head
namespace Go.Proofs.YtbippdeahoehoaaGreat
open Go.RowKit
end Go.Proofs.YtbippdeahoehoaaGreat
namespace Go.Proofs.YtbippdeahoehoaaGreat
open Go.RowKit
end Go.Proofs.YtbippdeahoehoaaGreat
namespace Go.Proofs.YtbippdeahoehoaaGreat
open Go.RowKit
end Go.Proofs.YtbippdeahoehoaaGreat
namespace Go.Proofs.YtbippdeahoehoaaGreat
open Go.RowKit
end Go.Proofs.YtbippdeahoehoaaGreat
namespace Go.Proofs.YtbippdeahoehoaaGreat
open Go.RowKit
end Go.Proofs.YtbippdeahoehoaaGreat
namespace Go.Proofs.YtbippdeahoehoaaGreat
open Go.RowKit
end Go.Proofs.YtbippdeahoehoaaGreat
namespace Go.Proofs.YtbippdeahoehoaaGreat
open Go.RowKit
def nu (s : ByteArray) (a b : Nat) : Nat := Oct.val (s.extract a b).data.toList
def hd (s : ByteArray) (long : Bool) : Head.H := ⟨nu s 0 2, nu s 2 4, nu s 4 5, (nu s 5 6 : Int) / 16, (nu s 5 6 : Int) % 16, nu s 6 8, (nu s 8 9 : Int) / 2 % 16, long, if long = true then nu s 10 16 else nu s 9 12⟩
def hnone : Head.H := ⟨0, 0, 0, 0, 0, 0, 0, false, 0⟩
def get (s : ByteArray) : Head.H × ByteArray × Int :=
  if s.size < 12 then (hnone, ⟨#[]⟩, 1)
  else if nu s 8 9 % 2 = 1 then
    if s.size < 16 then (hnone, ⟨#[]⟩, 1)
    else if nu s 8 9 / 32 = 0 ∧ nu s 9 10 = 0 then
      if Head.check (hd s true) = 0 then (hd s true, s.extract 16 s.size, 0) else (hnone, ⟨#[]⟩, Head.check (hd s true))
    else (hnone, ⟨#[]⟩, 4)
  else if nu s 8 9 / 32 = 0 then
    if Head.check (hd s false) = 0 then (hd s false, s.extract 12 s.size, 0) else (hnone, ⟨#[]⟩, Head.check (hd s false))
  else (hnone, ⟨#[]⟩, 4)
end Go.Proofs.YtbippdeahoehoaaGreat
namespace Go.Proofs.YtbippdeahoehoaaGreat
end Go.Proofs.YtbippdeahoehoaaGreat
namespace Go.Proofs.YtbippdeahoehoaaGreat
open Go.RowKit Sym
end Go.Proofs.YtbippdeahoehoaaGreat
namespace Go.Proofs.YtbippdeahoehoaaGreat
open Go.RowKit Sym
end Go.Proofs.YtbippdeahoehoaaGreat
namespace Go.Proofs.YtbippdeahoehoaaGreat
open Go.RowKit
end Go.Proofs.YtbippdeahoehoaaGreat
namespace Go.Proofs.YtbippdeahoehoaaGreat
open Go.RowKit Sym Sha Go.ChangeShapes Go.WideShapes Go.ChangeMaps
end Go.Proofs.YtbippdeahoehoaaGreat
namespace Go.Proofs.YtbippdeahoehoaaGreat
open Go.RowKit Sym Sha Go.ChangeShapes Go.WideShapes Go.ChangeMaps
end Go.Proofs.YtbippdeahoehoaaGreat
namespace Go.Proofs.YtbippdeahoehoaaGreat
open Go.RowKit Sym Sha Go.ChangeShapes Go.WideShapes Go.ChangeMaps
end Go.Proofs.YtbippdeahoehoaaGreat
namespace Go.Proofs.YtbippdeahoehoaaGreat
open Go.RowKit Sym Sha Go.ChangeShapes Go.WideShapes Go.ChangeMaps
end Go.Proofs.YtbippdeahoehoaaGreat
namespace Go.Proofs.YtbippdeahoehoaaGreat
open Go.RowKit Sym Sha Go.ChangeShapes Go.WideShapes Go.ChangeMaps
end Go.Proofs.YtbippdeahoehoaaGreat
namespace Go.Proofs.YtbippdeahoehoaaGreat.Inet
end Go.Proofs.YtbippdeahoehoaaGreat.Inet
namespace Go.Proofs.YtbippdeahoehoaaGreat
open Go.RowKit Sym Sha Go.ChangeShapes Go.WideShapes Go.ChangeMaps Inet
end Go.Proofs.YtbippdeahoehoaaGreat
namespace Go.Proofs.YtbippdeahoehoaaGreat
open Go.RowKit Sym Sha Go.ChangeShapes Go.WideShapes Go.ChangeMaps Inet
end Go.Proofs.YtbippdeahoehoaaGreat
namespace Go.Proofs.YtbippdeahoehoaaGreat
open Go.RowKit Sym Go.ChangeShapes Go.WideShapes Go.ChangeMaps Inet
end Go.Proofs.YtbippdeahoehoaaGreat
namespace Go.Proofs.YtbippdeahoehoaaGreat
open Go.RowKit Sym
def bytesO (o : Op) : List UInt8 := UInt8.ofNat o.kind.toNat :: (if o.kind ≤ 31 then [] else UInt8.ofNat (o.val.size + 2) :: o.val.data.toList)
def optL (g : Nat → Op) : Nat → List UInt8
  | 0 => []
  | i + 1 => optL g i ++ bytesO (g i)
def padN (n : Nat) : Nat := (4 - n % 4) % 4
def optP (n : Nat) (g : Nat → Op) : List UInt8 := optL g n ++ List.replicate (padN (optL g n).length) 0
theorem bytesO_len {o : Op} (h : rightO o = 0) : ((bytesO o).length : Int) = sizeO o := by
  obtain ⟨r1, r2, r3, r4⟩ := rightO_ok h
  unfold bytesO sizeO
  split
  · rfl
  · simp only [List.length_cons]
    have : o.val.data.toList.length = o.val.size := by simp
    omega
theorem chkO_ok {n : Nat} {g : Nat → Op} (h : chkO n g = 0) : (∀ i, i < n → rightO (g i) = 0) ∧ sizeL g n ≤ 400 := by
  obtain ⟨b1, b2, b3⟩ := badE_spec n g
  unfold chkO at h
  split at h
  · rename_i hb; exact absurd h (b3 hb)
  · rename_i hb
    have e : badE n g = n := by omega
    split at h
    · cases h
    · split at h
      · cases h
      · exact ⟨fun i hi => b2 i (by omega), by omega⟩
end Go.Proofs.YtbippdeahoehoaaGreat
namespace Go.Proofs.YtbippdeahoehoaaGreat
open Go.RowKit Sym Go.ChangeShapes Go.WideShapes Go.ChangeMaps Inet
end Go.Proofs.YtbippdeahoehoaaGreat
namespace Go.Proofs.YtbippdeahoehoaaGreat
open Go.RowKit Sym Go.ChangeShapes Go.WideShapes Go.ChangeMaps Inet
end Go.Proofs.YtbippdeahoehoaaGreat
namespace Go.Proofs.YtbippdeahoehoaaGreat
open Go.RowKit Sym Go.ChangeShapes Go.WideShapes Go.ChangeMaps Inet
end Go.Proofs.YtbippdeahoehoaaGreat
namespace Go.Proofs.YtbippdeahoehoaaGreat
open Go.RowKit Sym Go.ChangeShapes Go.WideShapes Go.ChangeMaps Inet
end Go.Proofs.YtbippdeahoehoaaGreat
namespace Go.Proofs.YtbippdeahoehoaaGreat.Sym
open Go.RowKit
def LFew (P : Program) (C : Cfg) (fn : Func) (k : Nat) : Nat → St → Option (T (Ex × St)) := fun id st =>
  match (loopsOf (fn.body.getD .skip)).filter (fun p => Nat.beq p.1 id) with
  | [(_, b)] => bif lexAllF C b && (loopsOf b).isEmpty then some (unrollB (runC P C noL fn.ntmps b) id k st) else none
  | _ => none
theorem LFew_ok {P : Program} {C : Cfg} (hC : CfgOk P C) (hP : P.follows .mixedOrders = true) {fn : Func} {k : Nat} : ∀ id body, (id, body) ∈ loopsOf (fn.body.getD .skip) → ∀ st t, LFew P C fn k id st = some t → RunOk P fn.ntmps (.block id (.loop body)) st t := by
  intro id body hin st t h
  unfold LFew at h
  split at h
  · rename_i i b hf
    have hm : (id, body) ∈ (loopsOf (fn.body.getD .skip)).filter (fun p => Nat.beq p.1 id) := List.mem_filter.2 ⟨hin, Nat.beq_refl _⟩
    rw [hf, List.mem_singleton, Prod.mk.injEq] at hm
    obtain ⟨rfl, rfl⟩ := hm
    cases hb : (lexAllF C body && (loopsOf body).isEmpty)
    · rw [hb] at h; cases h
    · rw [hb, cond_true, Option.some.injEq] at h
      subst h
      rw [Bool.and_eq_true] at hb
      exact unroll_ok hC hP (lexAllF_ok hb.1) (fun _ _ hi => by rw [List.isEmpty_iff.1 hb.2] at hi; cases hi) k st
  · cases h
end Go.Proofs.YtbippdeahoehoaaGreat.Sym
namespace Go.Proofs.YtbippdeahoehoaaGreat.Facts
open Go
def codes : List Nat := [104, 97, 114, 110, 101, 115, 115, 32, 56, 97, 101, 100, 57, 55, 100, 102, 56, 101, 56, 98, 99, 97, 100, 54, 98, 56, 53, 53, 54, 101, 51, 56, 53, 51, 52, 97, 53, 101, 99, 100, 52, 54, 48, 53, 99, 56, 101, 101, 48, 57, 48, 48, 56, 50, 50, 97, 100, 48, 101, 48, 100, 54, 55, 98, 101, 53, 56, 53, 100, 48, 56, 48, 32, 99, 117, 116, 32, 97, 116, 32, 97, 110, 97, 98, 114, 97, 110, 99, 104, 47, 97, 110, 97, 98, 114, 97, 110, 99, 104, 108, 97, 119, 51, 54, 46, 83, 111, 99, 107, 101, 116, 66, 101, 103, 105, 110, 115]
set_option maxRecDepth 100000 in
theorem initOf : Tryz.prog.initOrder = String.ofList (codes.map Char.ofNat) := by kernel_rfl
theorem initList : Tryz.prog.initOrder.toList = codes.map Char.ofNat := by rw [initOf, String.toList_ofList]
theorem lays : Tryz.prog.laysLater = false := by kernel_rfl
theorem reflects : Tryz.prog.bearsReflect = false := by kernel_rfl
def chunks : List (List Char) := [[99, 117, 116], [97, 116], [97, 110, 97, 98, 114, 97, 110, 99, 104, 47, 97, 110, 97, 98, 114, 97, 110, 99, 104, 108, 97, 119, 51, 54, 46, 83, 111, 99, 107, 101, 116, 66, 101, 103, 105, 110, 115]].map (List.map Char.ofNat)
theorem ws : behindMainWord (wordsSigns Tryz.prog.initOrder.toList) = chunks := by rw [initList]; kernel_rfl
theorem wsC : behindMainWord (wordsSigns Tryz.prog.initOrder.toList) = ['c', 'u', 't'] :: chunks.tail := by rw [ws]; kernel_rfl
theorem cutL : "cut".toList = ['c', 'u', 't'] := by
  rw [show "cut" = String.ofList ['c', 'u', 't'] from rfl, String.toList_ofList]
theorem lit_ne {s : String} (h : s ≠ "cut") : ¬ (['c', 'u', 't'] = s.toList) := by
  intro e
  exact h (String.toList_inj.mp (e.symm.trans cutL.symm))
theorem strip_none : ∀ (os : List String) (ws : List (List Char)), (∀ o ∈ os, o ≠ "cut") → stripLifts os (['c', 'u', 't'] :: ws) = ([], ['c', 'u', 't'] :: ws)
  | [], _, _ => rfl
  | o :: os, ws, h => by
    rw [stripLifts, if_neg, strip_none os ws (fun o ho => h o (List.mem_cons_of_mem _ ho))]
    rw [beq_iff_eq]
    exact lit_ne (h o (List.mem_cons_self ..))
theorem strip_cut (ws : List (List Char)) : stripLifts liftWords (['c', 'u', 't'] :: ws) = ([], ['c', 'u', 't'] :: ws) :=
  strip_none _ _ (by unfold liftWords; decide)
theorem beq_no {s : String} (h : s ≠ "cut") : (['c', 'u', 't'] == s.toList) = false := by
  cases e : (['c', 'u', 't'] == s.toList) with
  | false => rfl
  | true => exact absurd (beq_iff_eq.mp e) (lit_ne h)
theorem make_of (P : Program) (ws : List (List Char)) (h : behindMainWord (wordsSigns P.initOrder.toList) = ['c', 'u', 't'] :: ws) : P.make = some .cut := by
  unfold Program.make
  rw [h]
  simp only [beq_no (show "gc" ≠ "cut" by decide), beq_no (show "spec" ≠ "cut" by decide), cutL]
  simp
theorem lifts_of (P : Program) (ws : List (List Char)) (h : behindMainWord (wordsSigns P.initOrder.toList) = ['c', 'u', 't'] :: ws) : P.headLifts = [] := by
  unfold Program.headLifts
  simp only [h, strip_cut, cutL, List.head?_cons, beq_self_eq_true, if_true]
theorem final_of (P : Program) (ws : List (List Char)) (h : behindMainWord (wordsSigns P.initOrder.toList) = ['c', 'u', 't'] :: ws) : P.liftsFinal = false := by
  unfold Program.liftsFinal
  rw [lifts_of P ws h]
  simp [h]
theorem enter_of (P : Program) (ws : List (List Char)) (h : behindMainWord (wordsSigns P.initOrder.toList) = ['c', 'u', 't'] :: ws)
    (lays : P.laysLater = false) (rfls : P.bearsReflect = false) (door : P.doorFits [] = true) : P.mayEnter = true := by
  unfold Program.mayEnter
  rw [h]
  simp only [strip_cut, cutL, lays, rfls, door]
  simp
theorem door : Tryz.prog.doorFits [] = true := by kernel_rfl
theorem enter : Tryz.prog.mayEnter = true := enter_of _ _ wsC lays reflects door
theorem lifts : Tryz.prog.liftsFinal = false := final_of _ _ wsC
theorem make : Tryz.prog.make = some .cut := make_of _ _ wsC
theorem laid : laidOutB Tryz.prog = true := by kernel_rfl
theorem rowed : mapsRowed Tryz.prog = true := by kernel_rfl
theorem heard : Tryz.prog.stopsHeard = true := by kernel_rfl
theorem stops : Tryz.prog.stops = [] := by kernel_rfl
theorem knobs : Tryz.prog.stopKnobs = [] := by kernel_rfl
end Go.Proofs.YtbippdeahoehoaaGreat.Facts
