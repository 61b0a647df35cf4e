/- Numbers in writing and words as a line, by the shelf's contracts. No conditions but that the library's table reads as it is laid. -/
import Derived.Test.YtdhdkfnmbdejbaaDoorSgG
import Derived.Test.YtdhdkfnmbdejbaaDoorShelfI
import Derived.Test.YtdhdkfnmbdejbaaDoorShelfJ
import Derived.WalkSmall
namespace Go.Proofs.YtdhdkfnmbdejbaaDoor
set_option linter.unusedVariables false
set_option linter.unusedSimpArgs false
open Go.RowKit Go.Sort

theorem ofD_zero (k : Nat) (acc : List UInt8) : ofD k 0 acc = acc := by cases k <;> rfl
theorem ofD_dec : ∀ (k n : Nat) (acc : List UInt8), 0 < n → n < 10 ^ k → ofD k n acc = Lib.decDigits n ++ acc
  | 0, n, acc, h, hk => by simp at hk; omega
  | k + 1, n, acc, h, hk => by
    rw [ofD_step _ _ _ (by omega)]
    by_cases h10 : n < 10
    · rw [show n / 10 = 0 by omega, ofD_zero, Lib.decDigits, dif_pos h10, show n % 10 = n by omega]
      rfl
    · rw [ofD_dec k (n / 10) _ (by omega) (by rw [Nat.pow_succ] at hk; omega)]
      conv => rhs; rw [Lib.decDigits, dif_neg h10]
      simp
theorem ofL_itoa (n : Int) (h1 : -9223372036854775808 ≤ n) (h2 : n ≤ 9223372036854775807) : Lib.itoa n = ofL n := by
  unfold Lib.itoa ofL
  by_cases h0 : n = 0
  · subst h0; rw [if_neg (by decide), if_pos rfl, Lib.decDigits, dif_pos (by decide)]; rfl
  · rw [if_neg h0]
    by_cases hn : n < 0
    · rw [if_pos hn, if_pos hn, ofD_dec _ _ _ (by omega) (by omega), List.append_nil]
    · rw [if_neg hn, if_neg hn, ofD_dec _ _ _ (by omega) (by omega), List.append_nil, show n.toNat = n.natAbs by omega]
/-- the library's table of powers reads as it is laid -/
def TabW (w : World) : Prop := Lib.TabIs Tryd.prog w "internal/strconv.uint64pow10" .u64 Lib.pow10Tab
theorem TabW.below {w w' : World} (h : TabW w) (hb : Below w.heap.size w w') : TabW w' := by
  unfold TabW Lib.TabIs at *
  have hg : ∃ g, Tryd.prog.globalNamed "internal/strconv.uint64pow10" = some g := by
    cases hq : Tryd.prog.globalNamed "internal/strconv.uint64pow10" with
    | none => rw [World.var?, hq] at h; cases h
    | some g => exact ⟨g, rfl⟩
  obtain ⟨g, hg⟩ := hg
  have hlt : g < w.heap.size := by
    rw [World.var?, hg, Option.bind_some] at h
    by_cases hl : g < w.heap.size
    · exact hl
    · rw [Array.getElem?_eq_none (by omega)] at h; cases h
  exact var?_below hb hg hlt h
theorem grow_below' {w : World} {k : Nat} {os : Array Obj} : Below w.heap.size w (grow (w.drewN k) os) :=
  (below_drewN (Below.refl _ w) k).trans ⟨rfl, rfl, rfl, by simp [grow], fun i (hi : i < w.heap.size) => by
    show ((w.drewN k).heap ++ os)[i]? = (w.drewN k).heap[i]?
    rw [drewN_heap]
    exact Array.getElem?_append_left hi⟩
theorem of_any (n : Int) (h1 : -9223372036854775808 ≤ n) (h2 : n ≤ 9223372036854775807) (w : World) (ht : TabW w) : Calls Tryd.prog 28 #[.int .i64 n] w fun e w' => e = .returned (.string (tx (ofL n))) ∧ Below w.heap.size w w' := by
  have hc := Tryd.strconv_Itoa n h1 h2 w ht
  rw [ofL_itoa n h1 h2] at hc
  go_enter Tryd.func28, Tryd.ntmps28
  go_wp2_with (go_at_call 42; with_reducible refine hc.mono ?_; rintro e w1 ⟨rfl, k, os, rfl⟩)
  go_ret
  exact ⟨rfl, grow_below'⟩
/-- words as a line -/
def joinL (xs : List (List UInt8)) : List UInt8 := Lib.join xs [32]
theorem join_any {w : World} {base : Nat} {u : Value} {xs : List (List UInt8)} (hx : 0 < xs.length) (h : w.ownsRow base 9 1 u xs.length (wv xs)) (hN : xs.length ≤ 140737488355328) (hlen : (joinL xs).length ≤ 140737488355328) :
    Calls Tryd.prog 30 #[u] w fun e w' => e = .returned (.string (tx (joinL xs))) ∧ Below w.heap.size w w' := by
  rcases h.2 with ⟨-, h0⟩ | ⟨g, cap, cur, rfl, hbase, hg, q1, q2, q3, q4⟩
  · omega
  · have hlt : g < w.heap.size := lt_of_heap hg
    have hm : (xs.map tx).map (·.data.toList) = xs := by rw [List.map_map]; exact List.map_id'' (fun _ => rfl) xs
    have hc := Tryd.strings_Join g 0 cap (xs.map tx) ⟨#[32]⟩ w (fun j x hj => by
      have := row_cells hg q1 q3 q4 j (.string x) (by
        unfold wv
        rw [List.getElem?_map] at hj ⊢
        cases hq : xs[j]? with
        | none => rw [hq] at hj; cases hj
        | some l => rw [hq] at hj; cases hj; rfl)
      have e : ((⟨g, 0, none⟩ : Addr).add j) = ⟨g, 0 + j, none⟩ := by
        simp [Addr.add]
        intro h; exact h.symm
      rw [← e]
      exact this) hlt (by rw [List.length_map]; exact hN) (by rw [List.length_map]; exact q1) (by rw [hm]; exact hlen)
    rw [hm, List.length_map] at hc
    go_enter Tryd.func30, Tryd.ntmps30
    go_wp2_with (go_at_call 43; with_reducible refine hc.mono ?_; rintro e w1 ⟨rfl, hb⟩)
    go_ret
    exact ⟨rfl, hb⟩
end Go.Proofs.YtdhdkfnmbdejbaaDoor
