/- Numbers that are written; each side. No conditions. -/
import Derived.Test.YtdhdkfnmbdejbaaDoorSgA
import Derived.Lib.DecodeN
import Derived.Lib.OthersKept
import Derived.Laws.RangeAny
namespace Go.Proofs.YtdhdkfnmbdejbaaDoor
set_option linter.unusedVariables false
set_option linter.unusedSimpArgs false
open Go.RowKit

theorem valL_snoc (l : List UInt8) (c : UInt8) : valL (l ++ [c]) = 10 * valL l + (c.toNat - 48) := by unfold valL; rw [List.foldl_append]; rfl
theorem valL_lt : ∀ l : List UInt8, l.all isDig = true → valL l < 10 ^ l.length := by
  intro l
  suffices h : ∀ (l : List UInt8) (n k : Nat), l.all isDig = true → n < 10 ^ k → l.foldl (fun n c => 10 * n + (c.toNat - 48)) n < 10 ^ (k + l.length) by
    intro hl
    have := h l 0 0 hl (by decide)
    rwa [Nat.zero_add] at this
  intro l
  induction l with
  | nil => intro n k _ h; exact h
  | cons c l ih =>
    intro n k hl h
    rw [List.all_cons, Bool.and_eq_true] at hl
    rw [List.foldl_cons, List.length_cons, show k + (l.length + 1) = (k + 1) + l.length by omega]
    refine ih _ _ hl.2 ?_
    have hd := hl.1
    unfold isDig at hd
    rw [Bool.and_eq_true, decide_eq_true_eq, decide_eq_true_eq] at hd
    rw [Nat.pow_succ]
    omega
theorem get_list {s : ByteArray} {i : Nat} (h : i < s.size) : s.data.toList[i]? = some s[i] := by
  rw [List.getElem?_eq_getElem (by simpa using h)]
  rfl
theorem take_succ_list {s : ByteArray} {i : Nat} (h : i < s.size) : s.data.toList.take (i + 1) = s.data.toList.take i ++ [s[i]] := by
  rw [List.take_add_one, get_list h]
  rfl
theorem numL_false {l : List UInt8} (h : l = [] ∨ 15 < l.length ∨ (l.head? = some 48 ∧ 1 < l.length) ∨ l.all isDig = false) : numL l = (0, false) := by unfold numL; rw [if_pos h]
theorem size_list (s : ByteArray) : s.data.toList.length = s.size := rfl
theorem dig_iff (c : UInt8) : isDig c = true ↔ 48 ≤ (c.toNat : Int) ∧ (c.toNat : Int) ≤ 57 := by
  unfold isDig; rw [Bool.and_eq_true, decide_eq_true_eq, decide_eq_true_eq]; omega
theorem not_dig {s : ByteArray} {i : Nat} (h : i < s.size) (hd : isDig s[i] = false) : s.data.toList.all isDig = false := by
  rw [Bool.eq_false_iff]
  intro ha
  rw [List.all_eq_true] at ha
  have hm : s[i] ∈ s.data.toList := by
    have := get_list h
    exact List.mem_of_getElem? this
  rw [ha _ hm] at hd
  cases hd
set_option maxRecDepth 100000 in
set_option maxHeartbeats 2000000 in
theorem num_any (s : ByteArray) (w : World) : Calls Tryd.prog 47 #[.string s] w fun e w' => e = .returned (.tuple #[.int .i64 (numL s.data.toList).1, .bool (numL s.data.toList).2]) ∧ Below w.heap.size w w' := by
  by_cases h0 : s = tx []
  · have e0 := seq_true h0
    rw [numL_false (.inl (by rw [h0]; rfl))]
    clear h0
    go_enter Tryd.func47, Tryd.ntmps47
    go_wp2
    go_ret2
    exact ⟨rfl, Below.refl _ _⟩
  · have e0 := seq_false h0
    have hpos : 0 < s.size := by
      by_cases hz : 0 < s.size
      · exact hz
      · exact absurd (ByteArray.ext (Array.eq_empty_of_size_eq_zero (by simpa using hz))) h0
    clear h0
    by_cases h15 : (15 : Int) < (s.size : Int)
    · rw [numL_false (.inr (.inl (by rw [size_list]; omega)))]
      go_enter Tryd.func47, Tryd.ntmps47
      go_wp2
      go_ret2
      exact ⟨rfl, Below.refl _ _⟩
    · have i15 : (s.size : Int) ≤ 15 := by omega
      have hhd : s.data.toList.head? = some s[0] := by rw [List.head?_eq_getElem?]; exact get_list hpos
      by_cases hbad : ((s[0].toNat : Int) == 48) = true ∧ (1 : Int) < (s.size : Int)
      · obtain ⟨hz, h1⟩ := hbad
        have hz2 : s[0] = 48 := UInt8.toNat_inj.1 (by rw [beq_iff_eq] at hz; show s[0].toNat = 48; omega)
        rw [numL_false (.inr (.inr (.inl ⟨by rw [hhd, hz2], by rw [size_list]; omega⟩)))]
        clear hz2 hhd
        go_enter Tryd.func47, Tryd.ntmps47
        go_wp2
        go_ret2
        exact ⟨rfl, Below.refl _ _⟩
      · have hgood : ∀ h : s.data.toList.all isDig = true, numL s.data.toList = (((valL s.data.toList : Nat) : Int), true) := fun h => by
          unfold numL
          rw [if_neg]
          rw [size_list]
          rintro (h | h | ⟨h, h'⟩ | h)
          · rw [← size_list, h] at hpos; cases hpos
          · omega
          · rw [hhd, Option.some.injEq] at h
            exact hbad ⟨by rw [h]; rfl, by omega⟩
          · rename_i ha; rw [h] at ha; cases ha
        generalize hr : numL s.data.toList = r at hgood ⊢
        have e1 : ∀ h : ((s[0].toNat : Int) == 48) = true, ¬ (1 : Int) < (s.size : Int) := fun h h' => hbad ⟨h, h'⟩
        clear hhd hbad
        go_enter Tryd.func47, Tryd.ntmps47
        cases hz : ((s[0].toNat : Int) == 48)
        all_goals
          have e2 := e1
          rw [hz] at e2
          clear e1
          try have e3 := e2 rfl
          clear e2
          go_wp2
          go_loopg [4] s.size (fun gf u4 wx => ∃ pos : Nat, u4 = .int .i64 (valL (s.data.toList.take pos) : Nat) ∧ pos ≤ s.size ∧ s.size ≤ pos + gf ∧ (s.data.toList.take pos).all isDig = true ∧ wx.heap[w.heap.size]? = some (.stringIter s pos) ∧ Below w.heap.size w wx)
          case atStart => exact ⟨0, rfl, Nat.zero_le _, by omega, rfl, World.iter_heap w s 0, (Below.refl _ w).alloc (Nat.le_refl _) _⟩
          case round =>
            obtain ⟨pos, rfl, hps, hfu, hall, hit, hbw⟩ := hrel
            by_cases hlt : pos < s.size
            · obtain ⟨g', rfl⟩ : ∃ g', gk = g' + 1 := ⟨gk - 1, by omega⟩
              have hnx : ∀ ty, (Instr.next (.pointer (some ⟨w.heap.size, 0, none⟩)) true ty).run Tryd.prog wr = _ := fun ty => Lib.run_next_any_at wr w.heap.size s pos ty hit hlt
              by_cases hd : isDig s[pos] = true
              · obtain ⟨d1, d2⟩ := (dig_iff _).1 hd
                rw [decode_ascii s pos hlt (by omega)] at hnx
                have hall2 : (s.data.toList.take (pos + 1)).all isDig = true := by
                  rw [take_succ_list hlt, List.all_append, hall]
                  simpa using hd
                have hv := valL_snoc (s.data.toList.take pos) s[pos]
                rw [← take_succ_list hlt] at hv
                have hvl := valL_lt _ hall
                have hvl2 : valL (s.data.toList.take pos) < 10 ^ 15 := Nat.lt_of_lt_of_le hvl (Nat.pow_le_pow_right (by decide) (by rw [List.length_take]; omega))
                have hit2 := Lib.iterAt_heap wr w.heap.size s pos (pos + 1) hit
                have hbw2 := Lib.below_iterAt hbw (k := w.heap.size) (Nat.le_refl _) s (pos + 1)
                generalize hb : s[pos] = b at *
                have d3 : ¬ (b.toNat : Int) < 48 := by omega
                have d4 : ¬ (57 : Int) < (b.toNat : Int) := by omega
                dsimp only at hnx
                clear hd hall hvl hit hbw
                go_wp2
                go_roundg g'
                case measure => omega
                case rel =>
                  refine ⟨pos + 1, ?_, by omega, by omega, hall2, hit2, hbw2⟩
                  rw [show ((valL (s.data.toList.take (pos + 1)) : Nat) : Int) = 10 * (valL (s.data.toList.take pos) : Int) + ((b.toNat : Int) - 48) by rw [hv]; omega]
              · have hd : isDig s[pos] = false := by simpa using hd
                rw [numL_false (.inr (.inr (.inr (not_dig hlt hd))))] at hr
                by_cases ha : s[pos].toNat < 128
                · rw [decode_ascii s pos hlt ha] at hnx
                  have hbw2 := Lib.below_iterAt hbw (k := w.heap.size) (Nat.le_refl _) s (pos + 1)
                  have hd2 : ¬ (48 ≤ (s[pos].toNat : Int) ∧ (s[pos].toNat : Int) ≤ 57) := fun h => by rw [(dig_iff _).2 h] at hd; cases hd
                  generalize hb : s[pos] = b at *
                  dsimp only at hnx
                  clear hd hit hbw
                  by_cases d3 : (b.toNat : Int) < 48
                  · go_wp2
                    go_ret2
                    rw [← hr]
                    exact ⟨rfl, hbw2⟩
                  · have d4 : (57 : Int) < (b.toNat : Int) := by omega
                    go_wp2
                    go_ret2
                    rw [← hr]
                    exact ⟨rfl, hbw2⟩
                · have hh := (decode_high s pos hlt (by omega)).1
                  generalize (Utf8.decode s pos).1 = R at *
                  generalize (Utf8.decode s pos).2 = K at *
                  have hbw2 := Lib.below_iterAt hbw (k := w.heap.size) (Nat.le_refl _) s (pos + K)
                  have d3 : ¬ (R : Int) < 48 := by omega
                  have d4 : (57 : Int) < (R : Int) := by omega
                  clear hd hit hbw
                  go_wp2
                  go_ret2
                  rw [← hr]
                  exact ⟨rfl, hbw2⟩
            · obtain rfl : pos = s.size := by omega
              have hnx : ∀ ty, (Instr.next (.pointer (some ⟨w.heap.size, 0, none⟩)) true ty).run Tryd.prog wr = _ := fun ty => Lib.run_next_end_at wr w.heap.size s s.size ty hit hlt
              have htl : s.data.toList.take s.size = s.data.toList := by rw [← size_list, List.take_length]
              rw [htl] at hall
              have hg := hgood hall
              go_wp2
              go_ret2
              rw [hg, htl]
              exact ⟨rfl, hbw⟩
set_option maxRecDepth 100000 in
set_option maxHeartbeats 2000000 in
theorem rnum_any (s : ByteArray) (w : World) : Calls Tryd.prog 39 #[.string s] w fun e w' => e = .returned (.tuple #[.int .i64 (numL s.data.toList).1, .bool (numL s.data.toList).2]) ∧ Below w.heap.size w w' := by
  by_cases hpos : 0 < s.size
  · by_cases h15 : (15 : Int) < (s.size : Int)
    · rw [numL_false (.inr (.inl (by rw [size_list]; omega)))]
      have h1 : (1 : Int) ≤ (s.size : Int) := by omega
      go_enter Tryd.func39, Tryd.ntmps39
      go_wp2
      go_ret2
      exact ⟨rfl, Below.refl _ _⟩
    · have i15 : (s.size : Int) ≤ 15 := by omega
      have i1 : (1 : Int) ≤ (s.size : Int) := by omega
      generalize hr : numL s.data.toList = r
      go_enter Tryd.func39, Tryd.ntmps39
      go_wp2
      go_loopg [4, 5] s.size (fun gf u4 u5 wx => ∃ pos : Nat, u5 = .int .i64 pos ∧ u4 = .int .i64 (valL (s.data.toList.take pos) : Nat) ∧ pos ≤ s.size ∧ s.size ≤ pos + gf ∧ (s.data.toList.take pos).all isDig = true ∧ w = wx)
      case atStart => exact ⟨0, rfl, rfl, Nat.zero_le _, by omega, rfl, rfl⟩
      case round =>
        obtain ⟨pos, rfl, rfl, hps, hfu, hall, rfl⟩ := hrel
        by_cases hlt : pos < s.size
        · obtain ⟨g', rfl⟩ : ∃ g', gk = g' + 1 := ⟨gk - 1, by omega⟩
          by_cases hd : isDig s[pos] = true
          · obtain ⟨d1, d2⟩ := (dig_iff _).1 hd
            have hall2 : (s.data.toList.take (pos + 1)).all isDig = true := by
              rw [take_succ_list hlt, List.all_append, hall]
              simpa using hd
            have hv := valL_snoc (s.data.toList.take pos) s[pos]
            rw [← take_succ_list hlt] at hv
            have hvl := valL_lt _ hall
            have hvl2 : valL (s.data.toList.take pos) < 10 ^ 15 := Nat.lt_of_lt_of_le hvl (Nat.pow_le_pow_right (by decide) (by rw [List.length_take]; omega))
            have d3 : ¬ (s[pos].toNat : Int) < 48 := by omega
            have d4 : ¬ (57 : Int) < (s[pos].toNat : Int) := by omega
            clear hd hall hvl
            go_wp2
            go_roundg g'
            case measure => omega
            case rel =>
              refine ⟨pos + 1, ?_, ?_, by omega, by omega, hall2, rfl⟩
              · rfl
              · rw [show ((valL (s.data.toList.take (pos + 1)) : Nat) : Int) = 10 * (valL (s.data.toList.take pos) : Int) + (s[pos].toNat : Int) - 48 by rw [hv]; omega]
          · have hd : isDig s[pos] = false := by simpa using hd
            rw [numL_false (.inr (.inr (.inr (not_dig hlt hd))))] at hr
            have hd2 : ¬ (48 ≤ (s[pos].toNat : Int) ∧ (s[pos].toNat : Int) ≤ 57) := fun h => by rw [(dig_iff _).2 h] at hd; cases hd
            by_cases d3 : (s[pos].toNat : Int) < 48
            · go_wp2
              go_ret2
              rw [← hr]
              exact ⟨rfl, Below.refl _ _⟩
            · have d4 : (57 : Int) < (s[pos].toNat : Int) := by omega
              go_wp2
              go_ret2
              rw [← hr]
              exact ⟨rfl, Below.refl _ _⟩
        · obtain rfl : pos = s.size := by omega
          have htl : s.data.toList.take s.size = s.data.toList := by rw [← size_list, List.take_length]
          rw [htl] at hall
          have hhd : s.data.toList.head? = some s[0] := by rw [List.head?_eq_getElem?]; exact get_list hpos
          by_cases hbad : ((s[0].toNat : Int) == 48) = true ∧ (1 : Int) < (s.size : Int)
          · obtain ⟨hz, h1⟩ := hbad
            have hz2 : s[0] = 48 := UInt8.toNat_inj.1 (by rw [beq_iff_eq] at hz; show s[0].toNat = 48; omega)
            rw [numL_false (.inr (.inr (.inl ⟨by rw [hhd, hz2], by rw [size_list]; omega⟩)))] at hr
            clear hz2 hhd
            go_wp2
            go_ret2
            rw [← hr]
            exact ⟨rfl, Below.refl _ _⟩
          · have hg : r = (((valL s.data.toList : Nat) : Int), true) := by
              rw [← hr]
              unfold numL
              rw [if_neg]
              rw [size_list]
              rintro (h | h | ⟨h, h'⟩ | h)
              · rw [← size_list, h] at hpos; cases hpos
              · omega
              · rw [hhd, Option.some.injEq] at h
                exact hbad ⟨by rw [h]; rfl, by omega⟩
              · rw [h] at hall; cases hall
            rw [htl]
            clear hhd
            cases hz : ((s[0].toNat : Int) == 48)
            · go_wp2
              go_ret2
              try rw [hg]
              exact ⟨rfl, Below.refl _ _⟩
            · have h1 : ¬ (1 : Int) < (s.size : Int) := fun h => hbad ⟨hz, h⟩
              go_wp2
              go_ret2
              try rw [hg]
              exact ⟨rfl, Below.refl _ _⟩
  · rw [numL_false (.inl (by have : s.data.toList.length = 0 := by { rw [size_list]; omega }; exact List.length_eq_zero_iff.1 this))]
    have h1 : (s.size : Int) < 1 := by omega
    go_enter Tryd.func39, Tryd.ntmps39
    go_wp2
    go_ret2
    exact ⟨rfl, Below.refl _ _⟩
end Go.Proofs.YtdhdkfnmbdejbaaDoor
