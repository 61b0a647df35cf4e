/- An act in writing: the program's Write. No conditions but that the library's table reads as it is laid. -/
import Derived.Test.YtdhdkfnmbdejbaaDoorSgM
namespace Go.Proofs.YtdhdkfnmbdejbaaDoor
set_option linter.unusedVariables false
set_option linter.unusedSimpArgs false
open Go.RowKit

theorem joinL_cons (x : List UInt8) (r : List (List UInt8)) : joinL (x :: r) = x ++ (r.map fun y => 32 :: y).flatten := by
  unfold joinL Lib.join
  induction r generalizing x with
  | nil => simp [List.intercalate]
  | cons y r ih =>
    have := ih y
    simp only [List.intercalate, List.intersperse, List.flatten_cons, List.map_cons] at this ⊢
    rw [this]
    simp
theorem joinL_snoc (x : List UInt8) (r : List (List UInt8)) (y : List UInt8) : joinL (x :: (r ++ [y])) = joinL (x :: r) ++ 32 :: y := by
  rw [joinL_cons, joinL_cons]
  simp
theorem joinL_le (M : Nat) : ∀ (x : List UInt8) (r : List (List UInt8)), x.length ≤ M → (∀ y ∈ r, y.length ≤ M) → (joinL (x :: r)).length ≤ (r.length + 1) * (M + 1) := by
  intro x r hx hr
  rw [joinL_cons, List.length_append]
  have : ((r.map fun y => 32 :: y).flatten).length ≤ r.length * (M + 1) := by
    clear hx x
    induction r with
    | nil => simp
    | cons y r ih =>
      have h1 := hr y (List.mem_cons_self ..)
      have h2 := ih (fun z hz => hr z (List.mem_cons_of_mem _ hz))
      simp only [List.map_cons, List.flatten_cons, List.length_append, List.length_cons]
      rw [Nat.add_mul, Nat.one_mul]
      omega
  rw [Nat.add_mul, Nat.one_mul]
  omega
theorem ofD_len : ∀ (k n : Nat) (acc : List UInt8), (ofD k n acc).length ≤ k + acc.length
  | 0, n, acc => by show acc.length ≤ _; omega
  | k + 1, n, acc => by
    show (if n = 0 then acc else _ : List UInt8).length ≤ _
    split
    · omega
    · have := ofD_len k (n / 10) (UInt8.ofNat (48 + n % 10) :: acc)
      simp only [List.length_cons] at this
      omega
theorem ofL_len (n : Int) : (ofL n).length ≤ 3000 := by
  have := ofD_len 20 n.natAbs []
  unfold ofL
  simp only [List.length_nil] at this
  split
  · decide
  · split
    · simp only [List.length_cons]; omega
    · omega
theorem word_len (a : ActP) (hd : a.d.size ≤ 1000) (c : UInt8) : (wordOf a c).length ≤ 3000 := by
  unfold wordOf
  split
  · unfold nameL; split
    · decide
    · split <;> decide
  · split
    · unfold hexL; split
      · decide
      · rw [hexD_len, size_list]; omega
    · split
      · exact ofL_len _
      · split <;> exact ofL_len _
theorem cmdZ_len (n : Int) : (cmdZ n).length ≤ 3000 := by
  unfold cmdZ
  split
  · rename_i h
    have : ∀ k : Fin 15, (cmds.getD k.1 []).length ≤ 3000 := by decide
    exact this ⟨n.toNat - 1, by omega⟩
  · exact Nat.zero_le _
theorem fldZ_le (n : Int) : (fldZ n).length ≤ 100 := by
  unfold fldZ
  split
  · rename_i h
    have : ∀ k : Fin 15, (flds.getD k.1 []).length ≤ 100 := by decide
    exact this ⟨n.toNat - 1, by omega⟩
  · exact Nat.zero_le _
/-- an act whose numbers are numbers of the machine -/
def ActIn (a : ActP) : Prop := In64 a.x ∧ In64 a.y ∧ In64 a.z ∧ a.d.size ≤ 1000
/-- the number where it is read -/
def numAt (a : ActP) (c : UInt8) : Int := if c = 120 then a.x else if c = 121 then a.y else a.z
theorem numAt_cell {W : World} {b : Nat} {a : ActP} (h : ActAt W b a) (c : UInt8) : W.cell? ⟨b, offN c, none⟩ = some (.int .i64 (numAt a c)) := by
  obtain ⟨-, -, k2, k3, k4, -, -⟩ := h.at
  unfold offN numAt
  split
  · exact k2
  · split
    · exact k3
    · exact k4
theorem numAt_in {a : ActP} (h : ActIn a) (c : UInt8) : In64 (numAt a c) := by
  unfold numAt
  split
  · exact h.1
  · split
    · exact h.2.1
    · exact h.2.2.1
theorem word_num {a : ActP} {c : UInt8} (h1 : ¬ c = 115) (h2 : ¬ c = 100) : wordOf a c = ofL (numAt a c) := by
  unfold wordOf numAt
  rw [if_neg h1, if_neg h2]
  split
  · rfl
  · split <;> rfl
theorem row_one (w : World) (base : Nat) (l : List UInt8) (hb : base ≤ w.heap.size) : (w.alloc (.cells #[.string (tx l)] 9)).ownsRow base 9 1 (.slice (some ⟨w.heap.size, 0, none⟩) 1 1) 1 (wv [l]) :=
  ⟨rfl, .inr ⟨w.heap.size, 1, #[.string (tx l)], rfl, hb, heap_alloc_new w _, Nat.le_refl _, by decide, rfl, rfl⟩⟩
theorem row_below2 {w w' : World} {base e size n : Nat} {v : Value} {xs : List Value} (h : w.ownsRow base e size v n xs) (hb : Below w.heap.size w w') : w'.ownsRow base e size v n xs :=
  h.kept (row := none) ⟨hb.os, hb.tape, hb.output, hb.size, fun c hc _ => hb.block c hc⟩ (by cases v.ownBlock <;> simp)
theorem own_grown2 {w w' : World} {row : Option Nat} {B : Nat} {cs : Array Value} (h : Own w B cs) (hg : w.grownBy w' row) (hne : some B ≠ row) : Own w' B cs := by
  have hk := hg.block B h.1 hne
  exact ⟨Nat.lt_of_lt_of_le h.1 hg.size, fun j => by rw [World.cell?_of_block (w := w) (a := ⟨B, j, none⟩) hk]; exact h.2.1 j, fun j => by rw [World.frozen?_of_block (w := w) (a := ⟨B, j, none⟩) hk]; exact h.2.2 j⟩
/-- the act and the frame behind an append -/
theorem act_append {w wr w3 : World} {o : Obj} {a : ActP} {u : Value} {n : Nat} {xs : List Value} (hact : ActAt wr w.heap.size a) (hb : Below w.heap.size w wr) (hs : w.heap.size ≤ wr.heap.size) (hrow : wr.ownsRow (w.heap.size + 1) 9 1 u n xs) (hg : (wr.alloc o).grownBy w3 u.ownBlock) : ActAt w3 w.heap.size a ∧ Below w.heap.size w w3 := by
  refine ⟨own_grown2 (own_alloc hact o) hg (fun e => ?_), (hb.alloc hs o).grown hg (by simp; omega) (fun j hj => by have := (hrow.lt j hj).1; omega)⟩
  have := (hrow.lt w.heap.size e.symm).1
  omega
theorem wv_snoc2 (q : List (List UInt8)) (l : List UInt8) : wv (q ++ [l]) = wv q ++ [.string (tx l)] := wv_snoc q l
set_option maxRecDepth 100000 in
set_option maxHeartbeats 8000000 in
theorem write_any (a : ActP) (ha : ActIn a) (w : World) (ht : TabW w) : Calls Tryd.prog 9 #[.agg #[.int .i64 a.k, .int .i64 a.s, .int .i64 a.x, .int .i64 a.y, .int .i64 a.z, .string a.d]] w fun e w' => e = .returned (.string (writeP a)) ∧ Below w.heap.size w w' := by
  obtain ⟨i0, hi0, hz0, hz1, hz2⟩ := info_parts str_infoP
  obtain ⟨H, hH⟩ : ∃ H, writeP a = H := ⟨_, rfl⟩
  rw [hH]
  have hf := fun W => form_any a.k W
  have hown0 := own_new w a.cs 23
  have htx : ((tx (fldZ a.k)).size : Int) = ((fldZ a.k).length : Int) := rfl
  have hfl := fldZ_le a.k
  have hcl := cmdZ_len a.k
  have hwr : H = tx (joinL (cmdZ a.k :: (fldZ a.k).map (wordOf a))) := by rw [← hH]; rfl
  clear hH
  generalize fldZ a.k = fs at *
  generalize cmdZ a.k = cm at *
  go_enter Tryd.func9, Tryd.ntmps9
  go_wp2_with (go_at_call 21; (with_reducible refine (hf _).mono ?_); rintro e w1 ⟨rfl, hw⟩; obtain rfl := hw)
  go_loopg [5, 17] fs.length (fun gf u5 u17 wx => ∃ i : Nat, u17 = .int .i64 i ∧ wx.ownsRow (w.heap.size + 1) 9 1 u5 (i + 1) (wv (cm :: (fs.take i).map (wordOf a))) ∧ i ≤ fs.length ∧ fs.length ≤ i + gf ∧ ActAt wx w.heap.size a ∧ Below w.heap.size w wx)
  case atStart =>
    refine ⟨0, rfl, ?_, Nat.zero_le _, by omega, own_alloc hown0 _, below_alloc (below_alloc (Below.refl _ _) _) _⟩
    have h1 := row_one (w.alloc (.cells a.cs 23)) (w.heap.size + 1) cm (by simp)
    rw [World.size_alloc] at h1
    exact h1
  case round =>
    obtain ⟨i, rfl, hrow, hi, hfu, hact, hb⟩ := hrel
    by_cases hlt : i < fs.length
    · obtain ⟨g', rfl⟩ : ∃ g', gk = g' + 1 := ⟨gk - 1, by omega⟩
      have hk2 : i + 1 ≤ fs.length ∧ fs.length ≤ i + 1 + g' := ⟨hlt, by omega⟩
      have hi100 : i < 100 := by omega
      have hsn : (cm :: (fs.take (i + 1)).map (wordOf a)) = (cm :: (fs.take i).map (wordOf a)) ++ [wordOf a fs[i]] := by
        rw [list_take_succ hlt, List.map_append]; rfl
      have hix := fun X => idx_tx fs i hlt X
      have hbs := hb.size
      generalize fs[i] = c at *
      clear hfu hi
      by_cases h1 : c = 115
      · have e1 : ((c.toNat : Int) == 115) = true := u8t h1
        have hwd : wordOf a c = (nameL a.s).data.toList := by unfold wordOf; rw [if_pos h1]
        rw [hwd] at hsn
        obtain ⟨k0, k1, k2, k3, k4, k5, kf⟩ := hact.at
        have hnm := fun X => name_any a.s X
        rw [← tx_list (nameL a.s)] at hnm
        generalize (nameL a.s).data.toList = v at *
        clear h1 hwd hwr
        go_wp2_with (first
          | (go_at_call 26; (with_reducible refine (hnm _).mono ?_); rintro e w1 ⟨rfl, hw⟩; obtain rfl := hw)
          | (at_builtin; go_loud (refine wpList_append_lies _ rfl _ _ 32 rfl (w.heap.size + 1) 9 i0 (.string ⟨#[]⟩) 1 16 Tryd.underlying32 hi0 hz0 hz1 hz2 rfl (by decide) _ _ _ rfl (hrow.alloc _) ⟨wr.heap.size, 0, none⟩ 1 1 [Value.string (tx v)] rfl rfl (cells_new wr _ _) (by simp [Value.oneCell']) (by decide) (by unfold maxLen; omega) (by omega) (by have := hbs; simp; omega) (wr.heap.size + 1) (by simp) ?_); intro g cg w3 hown' hg3 hat hgl; obtain ⟨hact3, hb3⟩ := act_append hact hb hbs hrow hg3))
        go_roundg g'
        case measure => exact Nat.lt_succ_self _
        case rel => exact ⟨i + 1, rfl, by rw [hsn, wv_snoc2]; exact hown', hk2.1, hk2.2, hact3, hb3⟩
      · have e1 : ((c.toNat : Int) == 115) = false := u8f h1
        by_cases h2 : c = 100
        · have e2 : ((c.toNat : Int) == 100) = true := u8t h2
          have hwd : wordOf a c = hexL a.d.data.toList := by unfold wordOf; rw [if_neg h1, if_pos h2]
          rw [hwd] at hsn
          obtain ⟨k0, k1, k2, k3, k4, k5, kf⟩ := hact.at
          have hhx := fun X => hex_any a.d (by have := ha.2.2.2; omega) X
          generalize hexL a.d.data.toList = v at *
          clear h1 h2 hwd hwr
          go_wp2_with (first
            | (go_at_call 27; (with_reducible refine (hhx _).mono ?_); rintro e w2 ⟨rfl, hb2⟩; have hact2 := own_below hact hb2; have hrow2 := row_below2 hrow hb2; have hb4 := hb.trans (hb2.mono hbs); have hbs4 := hb4.size)
            | (at_builtin; go_loud (refine wpList_append_lies _ rfl _ _ 32 rfl (w.heap.size + 1) 9 i0 (.string ⟨#[]⟩) 1 16 Tryd.underlying32 hi0 hz0 hz1 hz2 rfl (by decide) _ _ _ rfl (hrow2.alloc _) ⟨w2.heap.size, 0, none⟩ 1 1 [Value.string (tx v)] rfl rfl (cells_new w2 _ _) (by simp [Value.oneCell']) (by decide) (by unfold maxLen; omega) (by omega) (by have := hbs4; simp; omega) (w2.heap.size + 1) (by simp) ?_); intro g cg w3 hown' hg3 hat hgl; obtain ⟨hact3, hb3⟩ := act_append hact2 hb4 hbs4 hrow2 hg3))
          go_roundg g'
          case measure => exact Nat.lt_succ_self _
          case rel => exact ⟨i + 1, rfl, by rw [hsn, wv_snoc2]; exact hown', hk2.1, hk2.2, hact3, hb3⟩
        · have e2 : ((c.toNat : Int) == 100) = false := u8f h2
          rw [word_num h1 h2] at hsn
          have hkc := numAt_cell hact c
          have hin := numAt_in ha c
          have hnb := fun X => number_any w.heap.size c X
          have hof := fun X hX => of_any (numAt a c) hin.1 hin.2 X hX
          have htr := ht.below hb
          generalize numAt a c = n at *
          generalize offN c = off at *
          generalize ofL n = v at *
          clear h1 h2 hwr hin
          go_wp2_with (first
            | (go_at_call 29; (with_reducible refine (hnb _).mono ?_); rintro e w1 ⟨rfl, hw⟩; obtain rfl := hw)
            | (go_at_call 28; (with_reducible refine (hof _ htr).mono ?_); rintro e w2 ⟨rfl, hb2⟩; have hact2 := own_below hact hb2; have hrow2 := row_below2 hrow hb2; have hb4 := hb.trans (hb2.mono hbs); have hbs4 := hb4.size)
            | (at_builtin; go_loud (refine wpList_append_lies _ rfl _ _ 32 rfl (w.heap.size + 1) 9 i0 (.string ⟨#[]⟩) 1 16 Tryd.underlying32 hi0 hz0 hz1 hz2 rfl (by decide) _ _ _ rfl (hrow2.alloc _) ⟨w2.heap.size, 0, none⟩ 1 1 [Value.string (tx v)] rfl rfl (cells_new w2 _ _) (by simp [Value.oneCell']) (by decide) (by unfold maxLen; omega) (by omega) (by have := hbs4; simp; omega) (w2.heap.size + 1) (by simp) ?_); intro g cg w3 hown' hg3 hat hgl; obtain ⟨hact3, hb3⟩ := act_append hact2 hb4 hbs4 hrow2 hg3))
          go_roundg g'
          case measure => exact Nat.lt_succ_self _
          case rel => exact ⟨i + 1, rfl, by rw [hsn, wv_snoc2]; exact hown', hk2.1, hk2.2, hact3, hb3⟩
    · obtain rfl : i = fs.length := by omega
      rw [List.take_length] at hrow
      have hlen : (cm :: fs.map (wordOf a)).length = fs.length + 1 := by simp
      rw [← hlen] at hrow
      have hle := joinL_le 3000 cm (fs.map (wordOf a)) hcl (fun y hy => by
        obtain ⟨c, hc, rfl⟩ := List.mem_map.1 hy
        exact word_len a ha.2.2.2 c)
      have hjn := join_any (xs := cm :: fs.map (wordOf a)) (Nat.succ_pos _) hrow (by rw [hlen]; omega) (by rw [List.length_map] at hle; have : (fs.length + 1) * (3000 + 1) ≤ 101 * 3001 := Nat.mul_le_mul (by omega) (Nat.le_refl _); omega)
      rw [← hwr] at hjn
      have hbs := hb.size
      clear hle hwr
      go_wp2_with (go_at_call 30; (with_reducible refine hjn.mono ?_); rintro e w2 ⟨rfl, hb2⟩)
      go_ret
      exact ⟨rfl, hb.trans (hb2.mono hbs)⟩
end Go.Proofs.YtdhdkfnmbdejbaaDoor
