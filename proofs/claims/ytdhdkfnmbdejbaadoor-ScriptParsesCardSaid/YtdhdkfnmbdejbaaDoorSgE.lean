/- Bytes in writing; each side. No conditions. -/
import Derived.Test.YtdhdkfnmbdejbaaDoorSgD
import Derived.Deep.RegionHeld3
import Derived.Laws.MakeOwn
namespace Go.Proofs.YtdhdkfnmbdejbaaDoor
set_option linter.unusedVariables false
set_option linter.unusedSimpArgs false
open Go.RowKit

theorem hexD_snoc (l : List UInt8) (b : UInt8) : hexD (l ++ [b]) = hexD l ++ [digL (b.toNat / 16), digL (b.toNat % 16)] := by unfold hexD; simp
theorem hexD_len (l : List UInt8) : (hexD l).length = 2 * l.length := by
  induction l with
  | nil => rfl
  | cons b l ih => show (digL _ :: digL _ :: hexD l).length = _; simp only [List.length_cons, ih]; omega
/-- append, as one step of a region that draws its order -/
theorem step_append_lie2 {P : Program} {ops : Array Oper} {o : Oper} {a : Act} {w : World} {K : Act → World → Prop} {Q : Exit → Act → World → Prop} {E : Prop}
    (hg : o.guard = none) (s x : Operand) (t : TypeId) (hop : o.op = Op.call { callee := Callee.builtin Builtin.append, args := #[s, x], argTypes := #[t, t] })
    (base : Nat) (e : TypeId) (i : TypeInfo) (z : Value) (size bytes : Nat) (h1 : P.underlying t = some (.slice e)) (h2 : P.info? e = some i) (h3 : i.zero = some z) (h4 : i.size = size) (h5 : i.bytes = bytes) (h6 : z.cells.size = size) (h7 : 0 < size)
    (u : Value) (n : Nat) (xs : List Value) (hs : a.eval s = u) (hown : w.ownsRow base e size u n xs)
    (ad : Addr) (m c : Nat) (news : List Value) (hx : a.eval x = .slice (some ad) m c) (hn : news.length = m * size) (hc : ∀ j u, news[j]? = some u → w.cell? (ad.add j) = some u) (h1c : ∀ u ∈ news, u.oneCell' = true)
    (b1 : n + m ≤ maxLen) (b2 : (n + m) * bytes ≤ 140737488355328) (hbase : base ≤ w.heap.size)
    (hK : ∀ v' w', w'.ownsRow base e size v' (n + m) (xs ++ news) → w.grownBy w' u.ownBlock → K (a.put o.dst v') w') :
    if Region.wanted o (yielded ops a.tmps) = true then Oper.wp P o a w K Q else E := by
  have hw : Region.wanted o (yielded ops a.tmps) = true := by simp [Region.wanted, hg]
  rw [if_pos hw]
  obtain ⟨v', w', hrun, r1, r2, _⟩ := run_append_own (P := P) w base t o.type e i z size bytes h1 h2 h3 h4 h5 h6 h7 u n xs hown ad m c news hn hc h1c b1 b2 hbase
  unfold Oper.wp
  simp [execOp, hop, resolve, invoke, builtin, hs, hx, hrun, Result.andThen]
  exact hK v' w' r1 r2
theorem row_ne_nil {w : World} {base : Nat} {e : TypeId} {sz : Nat} {u : Value} {n : Nat} {xs : List Value} (h : w.ownsRow base e sz u n xs) (hn : 0 < n) : u ≠ .slice none 0 0 := by
  rcases h.2 with ⟨-, rfl⟩ | ⟨g, cap, cur, rfl, -⟩
  · omega
  · intro h; cases h
theorem and_byte (b : UInt8) : bits BinOp.and .u8 (b.toNat : Int) 15 = ((b.toNat % 16 : Nat) : Int) := by
  have : ∀ n : Fin 256, bits BinOp.and .u8 (n.1 : Int) 15 = ((n.1 % 16 : Nat) : Int) := by decide +kernel
  exact this ⟨b.toNat, b.toNat_lt⟩
set_option maxRecDepth 100000 in
set_option maxHeartbeats 4000000 in
theorem hex_any (s : ByteArray) (hs : s.size ≤ 1000000) (w : World) : Calls Tryd.prog 27 #[.string s] w fun e w' => e = .returned (.string (tx (hexL s.data.toList))) ∧ Below w.heap.size w w' := by
  obtain ⟨i0, hi0, hz0, hz1, hz2⟩ := info_parts u8_infoP
  by_cases h0 : s = tx []
  · have e0 := seq_true h0
    rw [show hexL s.data.toList = [45] by rw [h0]; rfl]
    clear h0
    go_enter Tryd.func27, Tryd.ntmps27
    go_wp2
    go_ret
    exact ⟨rfl, Below.refl _ _⟩
  · have e0 := seq_false h0
    have hpos : 0 < s.size := by
      by_cases hp : 0 < s.size
      · exact hp
      · exact absurd (ByteArray.ext (Array.eq_empty_of_size_eq_zero (by simpa using hp))) h0
    have hH : hexL s.data.toList = hexD s.data.toList := by unfold hexL; rw [if_neg (fun h => h0 (by rw [← tx_list s, h]))]
    rw [hH]
    clear h0 hH
    have h2s : wrap64 (2 * (s.size : Int)) = 2 * (s.size : Int) := IntWalk.wrap64_in _ (by omega)
    obtain ⟨W0, hmk, hown0, hg0⟩ := run_make_own (P := Tryd.prog) w w.heap.size 67 5 i0 _ 1 Tryd.underlying67 hi0 hz0 hz1 .i64 .i64 (2 * s.size) (by rw [hz2]; omega) (by unfold maxLen; omega) (Nat.le_refl _)
    rw [show ((2 * s.size : Nat) : Int) = 2 * (s.size : Int) by omega] at hmk
    have hb0 : Below w.heap.size w W0 := (Below.refl _ w).grown hg0 (Nat.le_refl _) (fun k hk => by cases hk)
    obtain ⟨H, hH⟩ : ∃ H, tx (hexD s.data.toList) = H := ⟨_, rfl⟩
    rw [hH]
    go_enter Tryd.func27, Tryd.ntmps27
    go_wp2
    go_loopg [3, 13] s.size (fun gf u3 u13 wx => ∃ (i : Nat), u13 = .int .i64 i ∧ wx.ownsRow w.heap.size 5 1 u3 (hexD (s.data.toList.take i)).length (byV (hexD (s.data.toList.take i))) ∧ u3 ≠ .slice none 0 0 ∧ i ≤ s.size ∧ s.size ≤ i + gf ∧ Below w.heap.size w wx)
    case atStart => exact ⟨0, rfl, hown0, (fun h => by cases h), by omega, by omega, hb0⟩
    case round =>
      obtain ⟨i, rfl, hrow, hnn, hi, hfu, hb⟩ := hrel
      by_cases hlt : i < s.size
      · obtain ⟨g', rfl⟩ : ∃ g', gk = g' + 1 := ⟨gk - 1, by omega⟩
        have hsn := hexD_snoc (s.data.toList.take i) s[i]
        rw [← take_succ_list hlt] at hsn
        have ix0 := fun W => idx_at s i hlt (i : Int) rfl W
        have hlen : (hexD (s.data.toList.take i)).length = 2 * i := by rw [hexD_len, List.length_take, size_list]; omega
        generalize s[i] = b at *
        have han := and_byte b
        have hlo := fun W => digit_any (b.toNat / 16) (by have := b.toNat_lt; omega) W
        rw [show ((b.toNat / 16 : Nat) : Int) = (b.toNat : Int) / 16 from rfl] at hlo
        have hll := fun W => digit_any (b.toNat % 16) (by omega) W
        generalize digL (b.toNat / 16) = p at *
        generalize b.toNat % 16 = q at *
        go_wp2
        have hrowd : wr.drew.ownsRow w.heap.size 5 1 u3 (hexD (s.data.toList.take i)).length (byV (hexD (s.data.toList.take i))) := hrow
        have hbd : Below w.heap.size w wr.drew := hb.drew
        go_region_held3 (fun w' => True) (trivial)
          (first
            | (go_at_call 41; with_reducible refine (hlo _).mono ?_; rintro e w1 ⟨rfl, hw⟩; obtain rfl := hw)
            | (go_at_call 41; with_reducible refine (hll _).mono ?_; rintro e w1 ⟨rfl, hw⟩; obtain rfl := hw)
            | (refine step_append_lie2 rfl _ _ 67 rfl w.heap.size 5 i0 (.int .u8 0) 1 1 Tryd.underlying67 hi0 hz0 hz1 hz2 rfl (by decide) _ _ _ (by simp [Act.eval, Act.put]) (hrowd.alloc _) ⟨wr.heap.size, 0, none⟩ 2 2 [.int .u8 (p.toNat : Int), .int .u8 ((digL q).toNat : Int)] (by simp [Act.eval, Act.put]) rfl (cells_new wr.drew _ _) (by simp [Value.oneCell']) (by unfold maxLen; omega) (by omega) (by have := hb.size; simp; omega) ?_; intro v3 w3 hown3 hg3))
        all_goals
          go_wp2
          go_roundg g'
          case measure => omega
          case rel =>
            refine ⟨i + 1, rfl, ?_, row_ne_nil hown3 (by omega), by omega, by omega, (hbd.alloc hbd.size _).grown hg3 (by have := hb.size; simp; omega) (fun j hj => (hrow.lt j hj).1)⟩
            rw [hsn, List.length_append]
            unfold byV
            rw [List.map_append]
            exact hown3
      · obtain rfl : i = s.size := by omega
        have htl : s.data.toList.take s.size = s.data.toList := by rw [← size_list, List.take_length]
        rw [htl] at hrow
        generalize hexD s.data.toList = T at *
        rcases hrow.2 with ⟨rfl, hz⟩ | ⟨g, c6, cur, rfl, hbase, hgg, q1, q2, q3, q4⟩
        · exact absurd rfl hnn
        · have hcv : (convert 67 9 (.slice (some ⟨g, 0, none⟩) T.length c6)).run Tryd.prog wr = .ok (.string (tx T)) wr :=
            run_convert_bytes_back _ _ _ 5 _ _ T Tryd.underlying67 Tryd.underlying5 Tryd.underlying9 (fun j hj => row_cells hgg q1 q3 q4 j _ (by unfold byV; rw [List.getElem?_map, List.getElem?_eq_getElem hj]; rfl))
          go_wp2
          go_ret
          first | exact ⟨rfl, hb⟩ | exact ⟨by rw [hH], hb⟩
end Go.Proofs.YtdhdkfnmbdejbaaDoor
