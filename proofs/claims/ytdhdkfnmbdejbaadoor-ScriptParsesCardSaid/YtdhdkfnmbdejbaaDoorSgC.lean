/- The words of a line; each side. No conditions. -/
import Derived.Test.YtdhdkfnmbdejbaaDoorSgB
import Derived.Test.YtdhdkfnmbdejbaaDoorSfF
namespace Go.Proofs.YtdhdkfnmbdejbaaDoor
set_option linter.unusedVariables false
set_option linter.unusedSimpArgs false
open Go.RowKit

theorem fstate_snoc (l : List UInt8) (c : UInt8) : fstate (l ++ [c]) = fstep (fstate l) c := by unfold fstate; rw [List.foldl_append]; rfl
theorem fstate_run (l m : List UInt8) (h : ∀ c ∈ m, c ≠ 32) : fstate (l ++ m) = ((fstate l).1, (fstate l).2 ++ m) := by
  induction m generalizing l with
  | nil => simp
  | cons c m ih =>
    rw [show l ++ c :: m = (l ++ [c]) ++ m by simp, ih _ (fun d hd => h d (List.mem_cons_of_mem _ hd)), fstate_snoc]
    unfold fstep
    rw [if_neg (h c (List.mem_cons_self ..))]
    simp
theorem fstate_len (l : List UInt8) : (fstate l).1.length + (fstate l).2.length ≤ l.length := by
  suffices h : ∀ (l : List UInt8) (q : List (List UInt8) × List UInt8), (l.foldl fstep q).1.length + (l.foldl fstep q).2.length ≤ q.1.length + q.2.length + l.length by
    have := h l ([], [])
    simpa [fstate] using this
  intro l
  induction l with
  | nil => intro q; exact Nat.le_refl _
  | cons c l ih =>
    intro q
    rw [List.foldl_cons, List.length_cons]
    have h1 := ih (fstep q c)
    have h2 : (fstep q c).1.length + (fstep q c).2.length ≤ q.1.length + q.2.length + 1 := by
      unfold fstep
      split
      · split
        · omega
        · rename_i h
          have hp : 0 < q.2.length := List.length_pos_iff.2 h
          simp only [List.length_append, List.length_cons, List.length_nil]; omega
      · simp only [List.length_append, List.length_cons, List.length_nil]; omega
    omega
/-- words, as a row's values -/
def wv (q : List (List UInt8)) : List Value := q.map fun l => .string (tx l)
theorem wv_len (q : List (List UInt8)) : (wv q).length = q.length := by unfold wv; simp
theorem wv_snoc (q : List (List UInt8)) (l : List UInt8) : wv (q ++ [l]) = wv q ++ [.string (tx l)] := by unfold wv; simp
theorem cut_tx (s : ByteArray) (i : Nat) (h : i < s.size) : s.extract i (i + 1) = tx [s[i]] := by
  apply ByteArray.ext
  apply Array.ext'
  rw [ByteArray.data_extract, Array.toList_extract]
  show _ = [s[i]]
  have := get_list h
  simp only [List.extract_eq_take_drop]
  rw [show i + 1 - i = 1 by omega]
  rw [List.drop_eq_getElem_cons (by simpa using h)]
  simp
  rfl
set_option maxRecDepth 100000 in
set_option maxHeartbeats 4000000 in
theorem rfields_any (s : ByteArray) (hs : s.size ≤ 1000000) (w : World) : Calls Tryd.prog 23 #[.string s] w fun e w' => ∃ u, e = .returned u ∧ w'.ownsRow w.heap.size 9 1 u (fieldsL s.data.toList).length (wv (fieldsL s.data.toList)) ∧ Below w.heap.size w w' := by
  obtain ⟨i0, hi, hz0, hz1, hz2⟩ := info_parts str_infoP
  have hF : ∃ r, fieldsL s.data.toList = r := ⟨_, rfl⟩
  obtain ⟨F, hF⟩ := hF
  rw [hF]
  go_enter Tryd.func23, Tryd.ntmps23
  go_wp2
  go_loopg [3, 4, 5] (s.size + 1) (fun gf u3 u4 u5 wx => ∃ (pos : Nat) (acc : List (List UInt8)) (word : List UInt8), u5 = .int .i64 pos ∧ u4 = .string (tx word) ∧ wx.ownsRow w.heap.size 9 1 u3 acc.length (wv acc) ∧ pos ≤ s.size + 1 ∧ s.size + 1 ≤ pos + gf ∧ acc.length ≤ pos ∧ (pos ≤ s.size → fstate (s.data.toList.take pos) = (acc, word)) ∧ (pos = s.size + 1 → acc = F) ∧ Below w.heap.size w wx)
  case atStart => exact ⟨0, [], [], rfl, rfl, World.ownsRow_nil _ _ _ _, by omega, by omega, Nat.le_refl _, fun _ => rfl, fun h => by omega, Below.refl _ _⟩
  case round =>
    obtain ⟨pos, acc, word, rfl, rfl, hrow, hps, hfu, hal, hst, hend, hb⟩ := hrel
    by_cases hlt : pos < s.size
    · obtain ⟨g', rfl⟩ : ∃ g', gk = g' + 1 := ⟨gk - 1, by omega⟩
      have hst := hst (by omega)
      have hsn := fstate_snoc (s.data.toList.take pos) s[pos]
      rw [← take_succ_list hlt, hst] at hsn
      have hct := cut_tx s pos hlt
      have h32 : (s[pos].toNat : Int) = 32 ↔ s[pos] = 32 := ⟨fun h => UInt8.toNat_inj.1 (by show s[pos].toNat = 32; omega), fun h => by rw [h]; rfl⟩
      have hw1 : wrap64 ((pos : Int) + 1) = (pos : Int) + 1 := IntWalk.wrap64_in _ (by omega)
      have hwl : word.length ≤ pos := by have := fstate_len (s.data.toList.take pos); rw [hst] at this; dsimp only at this; rw [List.length_take] at this; omega
      by_cases hc : s[pos] = 32
      · have hc' : ((s[pos].toNat : Int) != 32) = false := by rw [h32.2 hc]; rfl
        by_cases hwd : word = []
        · subst hwd
          have hn2 : fstate (s.data.toList.take (pos + 1)) = (acc, []) := by rw [hsn]; unfold fstep; rw [if_pos hc, if_pos rfl]
          clear hsn h32 hc hct
          have e0 : ((tx []).toList == []) = true := seq_true rfl
          go_wp2
          go_roundg g'
          case measure => omega
          case rel => exact ⟨pos + 1, acc, [], rfl, rfl, hrow, by omega, by omega, by omega, fun _ => hn2, fun h => by omega, hb⟩
        · have hn2 : fstate (s.data.toList.take (pos + 1)) = (acc ++ [word], []) := by rw [hsn]; unfold fstep; rw [if_pos hc, if_neg hwd]
          clear hsn h32 hc hct
          have e0 : ((tx word).toList == []) = false := seq_false (fun h => hwd (tx_inj h))
          go_wp2_with (at_builtin; go_loud (refine wpList_append_lies _ rfl _ _ 32 rfl w.heap.size 9 i0 (.string ⟨#[]⟩) 1 16 Tryd.underlying32 hi hz0 hz1 hz2 rfl (by decide) _ _ _ rfl (hrow.alloc _) ⟨wr.heap.size, 0, none⟩ 1 1 [Value.string (tx word)] rfl rfl (cells_new wr _ _) (by simp [Value.oneCell']) (by decide) (by unfold maxLen; omega) (by omega) (by have := hb.size; simp; omega) (wr.heap.size + 1) (by simp) ?_); intro g cg w3 hown' hg3 hat hgl)
          go_roundg g'
          case measure => omega
          case rel =>
            refine ⟨pos + 1, acc ++ [word], [], rfl, rfl, by rw [List.length_append, wv_snoc]; exact hown', by omega, by omega, by rw [List.length_append]; simp; omega, fun _ => hn2, fun h => by omega, (hb.alloc hb.size _).grown hg3 (by have := hb.size; simp; omega) (fun j hj => (hrow.lt j hj).1)⟩
      · have hc' : ((s[pos].toNat : Int) != 32) = true := by rw [bne_iff_ne]; exact fun h => hc (h32.1 h)
        have hn2 : fstate (s.data.toList.take (pos + 1)) = (acc, word ++ [s[pos]]) := by rw [hsn]; unfold fstep; rw [if_neg hc]
        clear hsn h32 hc
        have hsz : ¬ 9223372036854775807 < (tx word).size + (tx [s[pos]]).size := by rw [tx_size, tx_size]; simp; omega
        go_wp2
        go_roundg g'
        case measure => omega
        case rel => exact ⟨pos + 1, acc, word ++ [s[pos]], rfl, by rw [tx_append], hrow, by omega, by omega, by omega, fun _ => hn2, fun h => by omega, hb⟩
    · by_cases heq : pos = s.size
      · subst heq
        obtain ⟨g', rfl⟩ : ∃ g', gk = g' + 1 := ⟨gk - 1, by omega⟩
        have htl : s.data.toList.take s.size = s.data.toList := by rw [← size_list, List.take_length]
        have hst := hst (Nat.le_refl _)
        rw [htl] at hst
        have hw1 : wrap64 ((s.size : Int) + 1) = (s.size : Int) + 1 := IntWalk.wrap64_in _ (by omega)
        by_cases hwd : word = []
        · subst hwd
          have hacc : acc = F := by rw [← hF]; unfold fieldsL; rw [hst, if_pos rfl]
          have e0 : ((tx []).toList == []) = true := seq_true rfl
          go_wp2
          go_roundg g'
          case measure => omega
          case rel => exact ⟨s.size + 1, acc, [], rfl, rfl, hrow, by omega, by omega, by omega, fun h => by omega, fun _ => hacc, hb⟩
        · have hacc : acc ++ [word] = F := by rw [← hF]; unfold fieldsL; rw [hst, if_neg hwd]
          have e0 : ((tx word).toList == []) = false := seq_false (fun h => hwd (tx_inj h))
          go_wp2_with (at_builtin; go_loud (refine wpList_append_lies _ rfl _ _ 32 rfl w.heap.size 9 i0 (.string ⟨#[]⟩) 1 16 Tryd.underlying32 hi hz0 hz1 hz2 rfl (by decide) _ _ _ rfl (hrow.alloc _) ⟨wr.heap.size, 0, none⟩ 1 1 [Value.string (tx word)] rfl rfl (cells_new wr _ _) (by simp [Value.oneCell']) (by decide) (by unfold maxLen; omega) (by omega) (by have := hb.size; simp; omega) (wr.heap.size + 1) (by simp) ?_); intro g cg w3 hown' hg3 hat hgl)
          go_roundg g'
          case measure => omega
          case rel =>
            refine ⟨s.size + 1, acc ++ [word], [], rfl, rfl, by rw [List.length_append, wv_snoc]; exact hown', by omega, by omega, by rw [List.length_append]; simp; omega, fun h => by omega, fun _ => hacc, (hb.alloc hb.size _).grown hg3 (by have := hb.size; simp; omega) (fun j hj => (hrow.lt j hj).1)⟩
      · obtain rfl : pos = s.size + 1 := by omega
        have hacc := hend rfl
        subst hacc
        go_wp2
        go_ret
        exact ⟨_, rfl, hrow, hb⟩
theorem own_iterAt {w : World} {B e size n : Nat} {v : Value} {xs : List Value} {k : Nat} {s : ByteArray} {pos : Nat} (h : w.ownsRow B e size v n xs) (hk : w.heap[k]? = some (.stringIter s pos)) (pos' : Nat) : (w.iterAt k s pos').ownsRow B e size v n xs := by
  refine ⟨h.1, ?_⟩
  rcases h.2 with h0 | ⟨g, cap, cur, hv, hb, hg, rest⟩
  · exact .inl h0
  · refine .inr ⟨g, cap, cur, hv, hb, ?_, rest⟩
    rw [Lib.iterAt_other _ _ _ _ _ (fun e => by subst e; rw [hk] at hg; cases hg)]
    exact hg
theorem own_ne_iter {w : World} {B e size n : Nat} {v : Value} {xs : List Value} {k : Nat} {s : ByteArray} {pos : Nat} (h : w.ownsRow B e size v n xs) (hk : w.heap[k]? = some (.stringIter s pos)) : some k ≠ v.ownBlock := by
  rcases h.2 with ⟨rfl, _⟩ | ⟨g, cap, cur, rfl, hb, hg, rest⟩
  · simp [Value.ownBlock]
  · intro e
    simp only [Value.ownBlock, Option.some.injEq] at e
    subst e
    rw [hk] at hg
    cases hg
theorem deco_cont (s : ByteArray) (pos : Nat) (h : pos < s.size) (j : Nat) (h1 : pos < j) (h2 : j < pos + (Utf8.decode s pos).2) : j < s.size ∧ (j < s.size → 128 ≤ (s.get! j).toNat) := by
  rw [Lib.decode_at] at h2
  have hb1 := UInt8.toNat_lt (s.get! (pos + 1))
  have hb2 := UInt8.toNat_lt (s.get! (pos + 2))
  have hb3 := UInt8.toNat_lt (s.get! (pos + 3))
  have key : ∀ (n b0 b1 b2 b3 k : Nat), 1 ≤ n → 0 < k → k < (Lib.decodeN n b0 b1 b2 b3).2 → k < n ∧ (k = 1 → 128 ≤ b1) ∧ (k = 2 → 128 ≤ b2) ∧ (k = 3 → 128 ≤ b3) ∧ k ≤ 3 := by
    intro n b0 b1 b2 b3 k hn hk hlt
    unfold Lib.decodeN at hlt
    split at hlt
    · simp at hlt; omega
    · split at hlt
      · split at hlt
        · simp at hlt; omega
        · simp at hlt; omega
      · split at hlt
        · split at hlt
          · simp at hlt; omega
          · simp at hlt; omega
        · split at hlt
          · split at hlt
            · simp at hlt; omega
            · simp at hlt; omega
          · simp at hlt; omega
  have h3 : j - pos < (Lib.decodeN (s.size - pos) (s.get! pos).toNat (s.get! (pos + 1)).toNat (s.get! (pos + 2)).toNat (s.get! (pos + 3)).toNat).2 := by omega
  obtain ⟨k1, k2, k3, k4, k5⟩ := key _ _ _ _ _ _ (by omega) (by omega) h3
  refine ⟨by omega, fun _ => ?_⟩
  have hj : j = pos + 1 ∨ j = pos + 2 ∨ j = pos + 3 := by omega
  rcases hj with rfl | rfl | rfl
  · exact k2 (by omega)
  · exact k3 (by omega)
  · exact k4 (by omega)
theorem get!_at (s : ByteArray) (i : Nat) (h : i < s.size) : s.get! i = s[i] := by
  have : s.get! i = s.data[i]! := rfl
  rw [this, getElem!_pos s.data i (by simpa using h)]
  rfl
/-- the bytes from one place to another -/
theorem take_add_list (s : ByteArray) (a b : Nat) : s.data.toList.take (a + b) = s.data.toList.take a ++ (s.data.toList.drop a).take b := by rw [List.take_add]
theorem ext_list (s : ByteArray) (a b : Nat) : s.extract a b = tx ((s.data.toList.take b).drop a) := by
  apply ByteArray.ext
  apply Array.ext'
  rw [ByteArray.data_extract, Array.toList_extract]
  show _ = (s.data.toList.take b).drop a
  rw [List.extract_eq_take_drop, List.drop_take]
/-- a rune that is no blank: none of its bytes is -/
theorem rune_bytes (s : ByteArray) (pos : Nat) (h : pos < s.size) (hn : s[pos] ≠ 32) : pos + (Utf8.decode s pos).2 ≤ s.size ∧ (Utf8.decode s pos).1 ≠ 32 ∧ ∀ c ∈ (s.data.toList.drop pos).take (Utf8.decode s pos).2, c ≠ 32 := by
  have hw1 : 1 ≤ (Utf8.decode s pos).2 := by
    by_cases ha : s[pos].toNat < 128
    · rw [decode_ascii s pos h ha]; exact Nat.le_refl _
    · exact (decode_high s pos h (by omega)).2
  have hle : pos + (Utf8.decode s pos).2 ≤ s.size := by
    by_cases h1 : (Utf8.decode s pos).2 = 1
    · omega
    · have := (deco_cont s pos h (pos + (Utf8.decode s pos).2 - 1) (by omega) (by omega)).1
      omega
  refine ⟨hle, ?_, ?_⟩
  · by_cases ha : s[pos].toNat < 128
    · rw [decode_ascii s pos h ha]
      intro e
      exact hn (UInt8.toNat_inj.1 (by show s[pos].toNat = 32; exact e))
    · have := (decode_high s pos h (by omega)).1
      omega
  · intro c hc
    obtain ⟨k, hk, hck⟩ := List.mem_iff_getElem.1 hc
    rw [List.length_take, List.length_drop, size_list] at hk
    rw [List.getElem_take, List.getElem_drop] at hck
    have hlt : pos + k < s.size := by omega
    have hck2 : s[pos + k] = c := by rw [← hck]; rfl
    by_cases hk0 : k = 0
    · subst hk0
      rw [← hck2]
      exact hn
    · have h128 := (deco_cont s pos h (pos + k) (by omega) (by omega)).2 hlt
      rw [get!_at s _ hlt, hck2] at h128
      intro e
      rw [e] at h128
      exact absurd h128 (by decide)
set_option maxRecDepth 100000 in
set_option maxHeartbeats 4000000 in
theorem fields_any (s : ByteArray) (hs : s.size ≤ 1000000) (w : World) : Calls Tryd.prog 37 #[.string s] w fun e w' => ∃ u, e = .returned u ∧ w'.ownsRow w.heap.size 9 1 u (fieldsL s.data.toList).length (wv (fieldsL s.data.toList)) ∧ Below w.heap.size w w' := by
  obtain ⟨i0, hi, hz0, hz1, hz2⟩ := info_parts str_infoP
  have hF : ∃ r, fieldsL s.data.toList = r := ⟨_, rfl⟩
  obtain ⟨F, hF⟩ := hF
  rw [hF]
  go_enter Tryd.func37, Tryd.ntmps37
  go_wp2
  go_loopg [3, 4] s.size (fun gf u3 u4 wx => ∃ (pos : Nat) (acc : List (List UInt8)) (st : Option Nat), u4 = .int .i64 (match st with | none => -1 | some a => (a : Int)) ∧ wx.ownsRow w.heap.size 9 1 u3 acc.length (wv acc) ∧ pos ≤ s.size ∧ s.size ≤ pos + gf ∧ acc.length ≤ pos ∧ fstate (s.data.toList.take pos) = (acc, match st with | none => [] | some a => (s.data.toList.take pos).drop a) ∧ (∀ a, st = some a → a < pos) ∧ wx.heap[w.heap.size]? = some (.stringIter s pos) ∧ Below w.heap.size w wx)
  case atStart => exact ⟨0, [], none, rfl, World.ownsRow_nil _ _ _ _, by omega, by omega, Nat.le_refl _, rfl, (fun a h => by cases h), World.iter_heap w s 0, (Below.refl _ w).alloc (Nat.le_refl _) _⟩
  case round =>
    obtain ⟨pos, acc, st, rfl, hrow, hps, hfu, hal, hst, hsa, hit, hb⟩ := hrel
    by_cases hlt : pos < s.size
    · obtain ⟨g', rfl⟩ : ∃ g', gk = g' + 1 := ⟨gk - 1, by omega⟩
      have hnx : ∀ ty, (Instr.next (.pointer (some ⟨w.heap.size, 0, none⟩)) true ty).run Tryd.prog wr = _ := fun ty => Lib.run_next_any_at wr w.heap.size s pos ty hit hlt
      by_cases hc : s[pos] = 32
      · rw [decode_ascii s pos hlt (by rw [hc]; decide)] at hnx
        have hR : (s[pos].toNat : Int) = 32 := by rw [hc]; rfl
        dsimp only at hnx
        rw [hR] at hnx
        have hsn := fstate_snoc (s.data.toList.take pos) s[pos]
        rw [← take_succ_list hlt, hst] at hsn
        have hit2 := Lib.iterAt_heap wr w.heap.size s pos (pos + 1) hit
        have hb2 := Lib.below_iterAt hb (k := w.heap.size) (Nat.le_refl _) s (pos + 1)
        have hrow2 := own_iterAt hrow hit (pos + 1)
        cases st with
        | none =>
          have hn2 : fstate (s.data.toList.take (pos + 1)) = (acc, []) := by rw [hsn]; unfold fstep; rw [if_pos hc, if_pos rfl]
          clear hsn hc hst hit hb hrow
          dsimp only
          go_wp2
          go_roundg g'
          case measure => omega
          case rel => exact ⟨pos + 1, acc, none, rfl, hrow2, by omega, by omega, by omega, hn2, (fun a h => by cases h), hit2, hb2⟩
        | some a =>
          have ha := hsa a rfl
          have hwd : (s.data.toList.take pos).drop a ≠ [] := by
            intro h
            have := congrArg List.length h
            rw [List.length_drop, List.length_take, size_list] at this
            simp at this
            omega
          have hn2 : fstate (s.data.toList.take (pos + 1)) = (acc ++ [(s.data.toList.take pos).drop a], []) := by rw [hsn]; unfold fstep; rw [if_pos hc, if_neg hwd]
          have hni := own_ne_iter hrow2 hit2
          clear hsn hc hst hit hb hrow hwd
          generalize wr.iterAt w.heap.size s (pos + 1) = W at *
          dsimp only
          go_wp2_with (at_builtin; go_loud (refine wpList_append_lies _ rfl _ _ 32 rfl w.heap.size 9 i0 (.string ⟨#[]⟩) 1 16 Tryd.underlying32 hi hz0 hz1 hz2 rfl (by decide) _ _ _ rfl (hrow2.alloc _) ⟨W.heap.size, 0, none⟩ 1 1 [Value.string (s.extract a pos)] rfl rfl (cells_new W _ _) (by simp [Value.oneCell']) (by decide) (by unfold maxLen; omega) (by omega) (by have := hb2.size; simp; omega) (W.heap.size + 1) (by simp) ?_); intro g cg w3 hown' hg3 hat hgl)
          go_roundg g'
          case measure => omega
          case rel =>
            refine ⟨pos + 1, acc ++ [(s.data.toList.take pos).drop a], none, rfl, by rw [List.length_append, wv_snoc, ← ext_list s a pos]; exact hown', by omega, by omega, by rw [List.length_append]; simp; omega, hn2, (fun a h => by cases h), ?_, (hb2.alloc hb2.size _).grown hg3 (by have := hb2.size; simp; omega) (fun j hj => (hrow2.lt j hj).1)⟩
            exact (hg3.block w.heap.size (by have := lt_of_heap hit2; simp; omega) hni).trans ((Below.heap_alloc _ _ _ (lt_of_heap hit2)).trans hit2)
      · obtain ⟨hle, hRne, hbytes⟩ := rune_bytes s pos hlt hc
        have hw1 : 1 ≤ (Utf8.decode s pos).2 := by
          by_cases ha : s[pos].toNat < 128
          · rw [decode_ascii s pos hlt ha]; exact Nat.le_refl _
          · exact (decode_high s pos hlt (by omega)).2
        generalize (Utf8.decode s pos).1 = R at *
        generalize (Utf8.decode s pos).2 = K at *
        have hrun := fstate_run (s.data.toList.take pos) _ hbytes
        rw [← take_add_list, hst] at hrun
        dsimp only at hrun
        have hit2 := Lib.iterAt_heap wr w.heap.size s pos (pos + K) hit
        have hb2 := Lib.below_iterAt hb (k := w.heap.size) (Nat.le_refl _) s (pos + K)
        have hrow2 := own_iterAt hrow hit (pos + K)
        have hR1 : ((R : Int) == 32) = false := by rw [beq_eq_false_iff_ne]; omega
        have hR2 : ((R : Int) != 32) = true := by rw [bne_iff_ne]; omega
        have hR3 : ¬ (R : Int) = 32 := by omega
        have hdrop : ∀ a, a ≤ pos → (s.data.toList.take (pos + K)).drop a = (s.data.toList.take pos).drop a ++ (s.data.toList.drop pos).take K := by
          intro a ha
          rw [take_add_list, List.drop_append_of_le_length (by rw [List.length_take, size_list]; omega)]
        clear hbytes hc hst hit hb hrow hRne
        cases st with
        | none =>
          dsimp only
          go_wp2
          go_roundg g'
          case measure => omega
          case rel =>
            refine ⟨pos + K, acc, some pos, rfl, hrow2, by omega, by omega, by omega, ?_, (fun a h => by cases h; omega), hit2, hb2⟩
            dsimp only
            have hd0 : (s.data.toList.take pos).drop pos = [] := List.drop_of_length_le (by rw [List.length_take]; omega)
            rw [hdrop pos (Nat.le_refl _), hrun, hd0]
        | some a =>
          have ha := hsa a rfl
          have ha0 : ¬ (a : Int) < 0 := by omega
          dsimp only
          go_wp2
          go_roundg g'
          case measure => omega
          case rel =>
            refine ⟨pos + K, acc, some a, rfl, hrow2, by omega, by omega, by omega, ?_, (fun b h => by cases h; omega), hit2, hb2⟩
            dsimp only
            rw [hdrop a (by omega), hrun]
    · obtain rfl : pos = s.size := by omega
      have hnx : ∀ ty, (Instr.next (.pointer (some ⟨w.heap.size, 0, none⟩)) true ty).run Tryd.prog wr = _ := fun ty => Lib.run_next_end_at wr w.heap.size s s.size ty hit hlt
      have htl : s.data.toList.take s.size = s.data.toList := by rw [← size_list, List.take_length]
      rw [htl] at hst
      cases st with
      | none =>
        have hacc : acc = F := by rw [← hF]; unfold fieldsL; rw [hst]; simp
        subst hacc
        dsimp only
        go_wp2
        go_ret
        exact ⟨_, rfl, hrow, hb⟩
      | some a =>
        have ha := hsa a rfl
        have hacc : acc ++ [s.data.toList.drop a] = F := by
          rw [← hF]; unfold fieldsL; rw [hst]; dsimp only; rw [if_neg]
          intro h
          have := congrArg List.length h
          rw [List.length_drop, size_list] at this
          simp at this
          omega
        dsimp only
        go_wp2_with (at_builtin; go_loud (refine wpList_append_lies _ rfl _ _ 32 rfl w.heap.size 9 i0 (.string ⟨#[]⟩) 1 16 Tryd.underlying32 hi hz0 hz1 hz2 rfl (by decide) _ _ _ rfl (hrow.alloc _) ⟨wr.heap.size, 0, none⟩ 1 1 [Value.string (s.extract a s.size)] rfl rfl (cells_new wr _ _) (by simp [Value.oneCell']) (by decide) (by unfold maxLen; omega) (by omega) (by have := hb.size; simp; omega) (wr.heap.size + 1) (by simp) ?_); intro g cg w3 hown' hg3 hat hgl)
        go_ret
        refine ⟨_, rfl, ?_, (hb.alloc hb.size _).grown hg3 (by have := hb.size; simp; omega) (fun j hj => (hrow.lt j hj).1)⟩
        have hext := ext_list s a s.size
        rw [htl] at hext
        rw [← hacc, List.length_append, wv_snoc, ← hext]
        exact hown'
end Go.Proofs.YtdhdkfnmbdejbaaDoor
