/- Bytes that are written; each side. No conditions. -/
import Derived.Test.YtdhdkfnmbdejbaaDoorSgC
import Derived.Laws.IdiomStrings
namespace Go.Proofs.YtdhdkfnmbdejbaaDoor
set_option linter.unusedVariables false
set_option linter.unusedSimpArgs false
open Go.RowKit

def digS : ByteArray := ⟨#[48, 49, 50, 51, 52, 53, 54, 55, 56, 57, 97, 98, 99, 100, 101, 102]⟩
theorem digS_size : digS.size = 16 := rfl
theorem digS_at : ∀ (k : Nat) (h : k < 16), (digS[k]'(by rw [digS_size]; exact h)) = digL k := by
  intro k h
  have : ∀ k : Fin 16, (digS[k.1]'(by rw [digS_size]; exact k.2)) = digL k.1 := by decide
  exact this ⟨k, h⟩
theorem digL_half : ∀ k : Nat, k < 16 → halfL (digL k) = some k := by
  intro k h
  have : ∀ k : Fin 16, halfL (digL k.1) = some k.1 := by decide
  exact this ⟨k, h⟩
theorem half_digL {c : UInt8} {n : Nat} (h : halfL c = some n) : digL n = c := by
  unfold halfL at h
  split at h
  · simp at h; subst h; unfold digL; rw [if_pos (by omega)]; apply UInt8.toNat_inj.1; simp; omega
  · split at h
    · simp at h; subst h; unfold digL; rw [if_neg (by omega)]; apply UInt8.toNat_inj.1; simp; omega
    · cases h
set_option maxRecDepth 100000 in
theorem rvalue_any (c : UInt8) (w : World) : Calls Tryd.prog 48 #[.int .u8 (c.toNat : Int)] w fun e w' => e = .returned (.int .i64 (match halfL c with | some n => (n : Int) | none => -1)) ∧ w = w' := by
  obtain ⟨r, hr⟩ : ∃ r, (match halfL c with | some n => (n : Int) | none => -1) = r := ⟨_, rfl⟩
  rw [hr]
  have hD : (⟨#[48, 49, 50, 51, 52, 53, 54, 55, 56, 57, 97, 98, 99, 100, 101, 102]⟩ : ByteArray) = digS := rfl
  have hds := digS_size
  go_enter Tryd.func48, Tryd.ntmps48
  go_wp2
  go_loopg [3] 16 (fun gf u3 wx => ∃ i : Nat, u3 = .int .i64 i ∧ i ≤ 16 ∧ 16 ≤ i + gf ∧ (∀ j, j < i → digL j ≠ c) ∧ w = wx)
  case atStart => exact ⟨0, rfl, by omega, by omega, (fun j h => by omega), rfl⟩
  case round =>
    obtain ⟨i, rfl, hi, hfu, hne, rfl⟩ := hrel
    by_cases hlt : i < 16
    · obtain ⟨g', rfl⟩ : ∃ g', gk = g' + 1 := ⟨gk - 1, by omega⟩
      have hi16 : (i : Int) < 16 := by omega
      have hat := digS_at i hlt
      by_cases hc : digL i = c
      · have hz : ((digL i).toNat : Int) == (c.toNat : Int) := by rw [hc]; simp
        go_wp2
        go_ret
        rw [← hr, ← hc, digL_half i hlt]
        exact ⟨rfl, rfl⟩
      · have hz : (((digL i).toNat : Int) == (c.toNat : Int)) = false := by
          rw [beq_eq_false_iff_ne]; intro h; exact hc (UInt8.toNat_inj.1 (by omega))
        go_wp2
        go_roundg g'
        case measure => omega
        case rel => exact ⟨i + 1, rfl, by omega, by omega, (fun j h => by by_cases hj : j = i; · subst hj; exact hc
                                                                          · exact hne j (by omega)), rfl⟩
    · obtain rfl : i = 16 := by omega
      go_wp2
      go_ret
      refine ⟨?_, rfl⟩
      rw [← hr]
      cases hh : halfL c with
      | none => rfl
      | some n => exact absurd (half_digL hh) (hne n (halfL_lt hh))
theorem unhex_snoc (p : List UInt8) (a b : UInt8) (r T : List UInt8) (h : unhex p = some T) : unhex (p ++ a :: b :: r) = (halfL a).bind fun x => (halfL b).bind fun y => (unhex r).map fun t => T ++ UInt8.ofNat (16 * x + y) :: t := by
  induction p using unhex.induct generalizing T with
  | case1 => simp [unhex] at h; subst h; rfl
  | case2 c d q ih =>
    simp only [unhex, Option.bind_eq_some_iff, Option.map_eq_some_iff] at h
    obtain ⟨x, hx, y, hy, t, ht, rfl⟩ := h
    simp only [List.cons_append, unhex, hx, hy, Option.bind_some, ih t ht]
    cases halfL a <;> cases halfL b <;> cases unhex r <;> rfl
  | case3 c => simp [unhex] at h
theorem unhex_odd (p : List UInt8) (a : UInt8) (T : List UInt8) (h : unhex p = some T) : unhex (p ++ [a]) = none := by
  induction p using unhex.induct generalizing T with
  | case1 => rfl
  | case2 c d q ih =>
    simp only [unhex, Option.bind_eq_some_iff, Option.map_eq_some_iff] at h
    obtain ⟨x, hx, y, hy, t, ht, rfl⟩ := h
    simp only [List.cons_append, unhex, hx, hy, Option.bind_some, ih t ht]
    rfl
  | case3 c => simp [unhex] at h
theorem two_list {s : ByteArray} {i : Nat} (h : i + 1 < s.size) : s.data.toList = s.data.toList.take i ++ s[i] :: s[i + 1] :: s.data.toList.drop (i + 2) := by
  have e1 : s.data.toList.drop i = s[i] :: s[i + 1] :: s.data.toList.drop (i + 2) := by
    rw [List.drop_eq_getElem_cons (by rw [size_list]; omega), List.drop_eq_getElem_cons (by rw [size_list]; omega)]
    rfl
  rw [← e1, List.take_append_drop]
theorem take_two {s : ByteArray} {i : Nat} (h : i + 1 < s.size) : s.data.toList.take (i + 2) = s.data.toList.take i ++ [s[i], s[i + 1]] := by
  rw [take_succ_list (by omega), take_succ_list (by omega)]
  simp
theorem idx_at (s : ByteArray) (i : Nat) (h : i < s.size) (z : Int) (hz : z = (i : Int)) (W : World) : (Instr.index 9 (.string s) (.int .i64 z)).run Tryd.prog W = .ok (.int .u8 (s[i].toNat : Int)) W := by
  subst hz
  rw [run_index_string _ _ _ _ _ Tryd.underlying9, dif_pos ⟨by omega, by omega⟩]
  rfl
theorem half_z (c : UInt8) : (halfL c = none ∧ (match halfL c with | some n => (n : Int) | none => -1) = -1) ∨ ∃ n, n < 16 ∧ halfL c = some n ∧ (match halfL c with | some n => (n : Int) | none => -1) = (n : Int) := by
  cases h : halfL c with
  | none => exact .inl ⟨rfl, rfl⟩
  | some n => exact .inr ⟨n, halfL_lt h, rfl, rfl⟩
theorem unhex_len (p T : List UInt8) (h : unhex p = some T) : p.length = 2 * T.length := by
  induction p using unhex.induct generalizing T with
  | case1 => simp [unhex] at h; subst h; rfl
  | case2 c d q ih =>
    simp only [unhex, Option.bind_eq_some_iff, Option.map_eq_some_iff] at h
    obtain ⟨x, hx, y, hy, t, ht, rfl⟩ := h
    have := ih t ht
    simp only [List.length_cons]
    omega
  | case3 c => simp [unhex] at h
/-- bytes, as a row's values -/
def byV (l : List UInt8) : List Value := l.map fun b => .int .u8 (b.toNat : Int)
theorem byV_snoc (l : List UInt8) (b : UInt8) : byV (l ++ [b]) = byV l ++ [.int .u8 (b.toNat : Int)] := by unfold byV; simp
theorem or_half (x y : Nat) (hx : x < 16) (hy : y < 16) : bits BinOp.or .u8 ((x : Int) * 16) (y : Int) = ((UInt8.ofNat (16 * x + y)).toNat : Int) := by
  have : ∀ x y : Fin 16, bits BinOp.or .u8 ((x.1 : Int) * 16) (y.1 : Int) = ((UInt8.ofNat (16 * x.1 + y.1)).toNat : Int) := by decide
  exact this ⟨x, hx⟩ ⟨y, hy⟩
theorem u8_infoP : (Tryd.prog.info? 5).map (fun i => (i.zero, i.size, i.bytes)) = some (some (.int .u8 0), 1, 1) := by kernel_rfl
/-- the text is what is told, where it is told -/
def RB (R : Option (List UInt8)) (e : Ending) : Prop := ∃ t, e = .returned (.tuple #[.string t, .bool R.isSome]) ∧ ∀ r, R = some r → t = tx r
theorem RB.none_ {R : Option (List UInt8)} {e : Ending} {t : ByteArray} (h : R = none) (he : e = .returned (.tuple #[.string t, .bool false])) : RB R e := by subst h; exact ⟨t, he, fun r h => by cases h⟩
theorem RB.some_ {R : Option (List UInt8)} {e : Ending} {T : List UInt8} (h : R = some T) (he : e = .returned (.tuple #[.string (tx T), .bool true])) : RB R e := by subst h; exact ⟨tx T, he, fun r h => by cases h; rfl⟩
set_option maxRecDepth 100000 in
set_option maxHeartbeats 4000000 in
theorem rbytes_any (s : ByteArray) (hs : s.size ≤ 1000000) (w : World) : Calls Tryd.prog 40 #[.string s] w fun e w' => RB (bytesL s.data.toList) e ∧ Below w.heap.size w w' := by
  by_cases h0 : s = tx [45]
  · have e0 := seq_true h0
    have hr : bytesL s.data.toList = some [] := by rw [h0]; rfl
    clear h0
    go_enter Tryd.func40, Tryd.ntmps40
    go_wp2
    go_ret2
    exact ⟨RB.some_ hr rfl, Below.refl _ _⟩
  · have e0 := seq_false h0
    have hb0 : bytesL s.data.toList = if s.data.toList = [] then none else unhex s.data.toList := by
      unfold bytesL
      rw [if_neg]
      intro h
      exact h0 (by rw [← tx_list s, h])
    clear h0
    obtain ⟨R, hR⟩ : ∃ R, bytesL s.data.toList = R := ⟨_, rfl⟩
    rw [hR]
    go_enter Tryd.func40, Tryd.ntmps40
    go_wp2
    go_loopg [4, 5] s.size (fun gf u4 u5 wx => ∃ (i : Nat) (T : List UInt8), u5 = .int .i64 i ∧ u4 = .string (tx T) ∧ i ≤ s.size ∧ s.size ≤ i + gf ∧ 2 * T.length = i ∧ unhex (s.data.toList.take i) = some T ∧ Below w.heap.size w wx)
    case atStart => exact ⟨0, [], rfl, rfl, by omega, by omega, rfl, rfl, Below.refl _ _⟩
    case round =>
      obtain ⟨i, T, rfl, rfl, hi, hfu, hiT, hun, hb⟩ := hrel
      have hw1 : wrap64 ((i : Int) + 1) = (i : Int) + 1 := IntWalk.wrap64_in _ (by omega)
      have hw2 : wrap64 ((i : Int) + 2) = (i : Int) + 2 := IntWalk.wrap64_in _ (by omega)
      by_cases hlt : i + 1 < s.size
      · obtain ⟨g', rfl⟩ : ∃ g', gk = g' + 1 := ⟨gk - 1, by omega⟩
        have hi1 : (i : Int) + 1 < (s.size : Int) := by omega
        have hva := fun W => rvalue_any s[i] W
        have hvb := fun W => rvalue_any s[i + 1] W
        have hfull := two_list hlt
        have hsn := unhex_snoc _ s[i] s[i + 1] (s.data.toList.drop (i + 2)) T hun
        rw [← hfull] at hsn
        have hsn2 := unhex_snoc _ s[i] s[i + 1] [] T hun
        rw [← take_two hlt] at hsn2
        have hne : s.data.toList ≠ [] := by intro h; have h2 : s.size = 0 := congrArg List.length h; omega
        rw [if_neg hne] at hb0
        clear hfull
        have ix0 := fun W => idx_at s i (by omega) (i : Int) rfl W
        have ix1 := fun W => idx_at s (i + 1) hlt ((i : Int) + 1) (by omega) W
        generalize s[i] = ca at *
        generalize s[i + 1] = cb at *
        rcases half_z ca with ⟨ha, hza⟩ | ⟨x, hx, ha, hza⟩
        · rw [hza] at hva
          have hRn : R = none := by rw [← hR, hb0, hsn, ha]; rfl
          generalize (match halfL cb with | some n => (n : Int) | none => -1) = zb at hvb
          clear hsn hsn2 hR hb0 ha hza
          go_wp2
          go_quiet ((go_at_call 48; first | with_reducible exact quiet_left (hva _) | with_reducible exact quiet_left (hvb _)))
          have hbd := below_drewN hb nq
          go_wp2
          go_ret2
          exact ⟨RB.none_ hRn rfl, hbd⟩
        · rw [hza] at hva
          have hx0 : ¬ (x : Int) < 0 := by omega
          rcases half_z cb with ⟨hbn, hzb⟩ | ⟨y, hy, hbn, hzb⟩
          · rw [hzb] at hvb
            have hRn : R = none := by rw [← hR, hb0, hsn, ha, hbn]; rfl
            clear hsn hsn2 hR hb0 ha hza hbn hzb
            go_wp2
            go_quiet ((go_at_call 48; first | with_reducible exact quiet_left (hva _) | with_reducible exact quiet_left (hvb _)))
            have hbd := below_drewN hb nq
            go_wp2
            go_ret2
            exact ⟨RB.none_ hRn rfl, hbd⟩
          · rw [hzb] at hvb
            have hy0 : ¬ (y : Int) < 0 := by omega
            rw [ha, hbn] at hsn2
            have hsn3 : unhex (s.data.toList.take (i + 2)) = some (T ++ [UInt8.ofNat (16 * x + y)]) := hsn2
            clear hsn hsn2 ha hza hbn hzb
            go_wp2
            go_quiet ((go_at_call 48; first | with_reducible exact quiet_left (hva _) | with_reducible exact quiet_left (hvb _)))
            have hbd := below_drewN hb nq
            have hval : (16 * (x : Int) + (y : Int)) = (((UInt8.ofNat (16 * x + y)).toNat : Nat) : Int) := by
              rw [UInt8.toNat_ofNat']; omega
            generalize UInt8.ofNat (16 * x + y) = B at hval hsn3
            have hsz : ¬ 9223372036854775807 < (tx T).size + (tx [B]).size := by rw [tx_size, tx_size]; simp; omega
            have hcv : (convert 67 9 (.slice (some ⟨wr.heap.size, 0, none⟩) 1 1)).run Tryd.prog ((wr.drewN nq).alloc (.cells #[.int .u8 (16 * (x : Int) + (y : Int))] 5)) = .ok (.string (tx [B])) ((wr.drewN nq).alloc (.cells #[.int .u8 (16 * (x : Int) + (y : Int))] 5)) := by
              exact run_convert_bytes_back _ _ _ 5 _ _ [B] Tryd.underlying67 Tryd.underlying5 Tryd.underlying9 (by
                intro j hj
                obtain rfl : j = 0 := by simpa using hj
                rw [hval]
                exact cells_new (wr.drewN nq) #[.int .u8 ((B.toNat : Nat) : Int)] _ 0 _ rfl)
            clear hval
            go_wp2
            go_roundg g'
            case measure => omega
            case rel => exact ⟨i + 2, T ++ [B], rfl, by rw [tx_append], by omega, by omega, by rw [List.length_append]; simp; omega, hsn3, below_alloc hbd _⟩
      · have hlt' : ¬ (i : Int) + 1 < (s.size : Int) := by omega
        by_cases hi2 : i = s.size
        · subst hi2
          have htl : s.data.toList.take s.size = s.data.toList := by rw [← size_list, List.take_length]
          rw [htl] at hun
          by_cases hz : s.size = 0
          · have hRn : R = none := by rw [← hR, hb0, if_pos (List.length_eq_zero_iff.1 (by rw [size_list]; exact hz))]
            have hz' : ¬ (0 : Int) < (s.size : Int) := by omega
            clear hb0 hR
            go_wp2
            go_ret2
            first | exact ⟨RB.none_ hRn rfl, hb⟩ | exact ⟨RB.none_ rfl rfl, hb⟩
          · have hRn : R = some T := by rw [← hR, hb0, if_neg (fun h => hz (by rw [← size_list, h]; rfl)), hun]
            have hz' : (0 : Int) < (s.size : Int) := by omega
            have htx : ((tx T).size : Int) = (T.length : Int) := rfl
            have h2T : wrap64 (2 * (T.length : Int)) = 2 * (T.length : Int) := by rw [IntWalk.wrap64_in _ (by omega)]
            have hne : ((2 * (T.length : Int)) == (s.size : Int)) = true := by rw [beq_iff_eq]; omega
            clear hb0 hR
            go_wp2
            go_ret2
            first | exact ⟨RB.some_ hRn rfl, hb⟩ | exact ⟨RB.some_ rfl rfl, hb⟩
        · have hRn : R = none := by
            rw [← hR, hb0, if_neg (fun h => by have h2 : s.size = 0 := congrArg List.length h; omega)]
            have e1 : s.data.toList = s.data.toList.take i ++ [s[i]] := by
              rw [← take_succ_list (by omega), List.take_of_length_le (by rw [size_list]; omega)]
            rw [e1]
            exact unhex_odd _ _ _ hun
          have hz' : (0 : Int) < (s.size : Int) := by omega
          have htx : ((tx T).size : Int) = (T.length : Int) := rfl
          have h2T : wrap64 (2 * (T.length : Int)) = 2 * (T.length : Int) := by rw [IntWalk.wrap64_in _ (by omega)]
          have hne : ((2 * (T.length : Int)) == (s.size : Int)) = false := by rw [beq_eq_false_iff_ne]; omega
          clear hb0 hR
          go_wp2
          go_ret2
          first | exact ⟨RB.none_ hRn rfl, hb⟩ | exact ⟨RB.none_ rfl rfl, hb⟩
set_option maxRecDepth 100000 in
set_option maxHeartbeats 4000000 in
theorem bytes_any (s : ByteArray) (hs : s.size ≤ 1000000) (w : World) : Calls Tryd.prog 46 #[.string s] w fun e w' => e = .returned (.tuple #[.string (tx ((bytesL s.data.toList).getD [])), .bool (bytesL s.data.toList).isSome]) ∧ Below w.heap.size w w' := by
  obtain ⟨i0, hi0, hz0, hz1, hz2⟩ := info_parts u8_infoP
  by_cases h0 : s = tx [45]
  · have e0 := seq_true h0
    have hr : bytesL s.data.toList = some [] := by rw [h0]; rfl
    rw [hr]
    clear h0
    go_enter Tryd.func46, Tryd.ntmps46
    go_wp2
    go_ret2
    exact ⟨rfl, Below.refl _ _⟩
  · have e0 := seq_false h0
    have hb0 : bytesL s.data.toList = if s.data.toList = [] then none else unhex s.data.toList := by
      unfold bytesL
      rw [if_neg]
      intro h
      exact h0 (by rw [← tx_list s, h])
    clear h0
    by_cases hz : s = tx []
    · have e1 := seq_true hz
      rw [hb0, if_pos (by rw [hz]; rfl)]
      clear hz
      go_enter Tryd.func46, Tryd.ntmps46
      go_wp2
      go_ret2
      exact ⟨rfl, Below.refl _ _⟩
    · have e1 := seq_false hz
      have hpos : 0 < s.size := by
        by_cases hp : 0 < s.size
        · exact hp
        · exact absurd (ByteArray.ext (Array.eq_empty_of_size_eq_zero (by simpa using hp))) hz
      rw [if_neg (fun h => hz (by rw [← tx_list s, h]))] at hb0
      clear hz
      have htm : Int.tmod (s.size : Int) 2 = ((s.size % 2 : Nat) : Int) := rfl
      by_cases hodd : s.size % 2 = 0
      · rw [hodd] at htm
        obtain ⟨R, hR⟩ : ∃ R, bytesL s.data.toList = R := ⟨_, rfl⟩
        rw [hR]
        rw [hR] at hb0
        clear hR
        go_enter Tryd.func46, Tryd.ntmps46
        go_wp2
        go_loopg [4, 5] s.size (fun gf u4 u5 wx => ∃ (i : Nat) (T : List UInt8), u5 = .int .i64 i ∧ wx.ownsRow w.heap.size 5 1 u4 T.length (byV T) ∧ i ≤ s.size ∧ s.size ≤ i + gf ∧ 2 * T.length = i ∧ unhex (s.data.toList.take i) = some T ∧ Below w.heap.size w wx)
        case atStart => exact ⟨0, [], rfl, World.ownsRow_nil _ _ _ _, by omega, by omega, rfl, rfl, Below.refl _ _⟩
        case round =>
          obtain ⟨i, T, rfl, hrow, hi, hfu, hiT, hun, hb⟩ := hrel
          by_cases hlt : i < s.size
          · have hlt1 : i + 1 < s.size := by omega
            obtain ⟨g', rfl⟩ : ∃ g', gk = g' + 1 := ⟨gk - 1, by omega⟩
            have hw1 : wrap64 ((i : Int) + 1) = (i : Int) + 1 := IntWalk.wrap64_in _ (by omega)
            have hw2 : wrap64 ((i : Int) + 2) = (i : Int) + 2 := IntWalk.wrap64_in _ (by omega)
            have hfull := two_list hlt1
            have hsn := unhex_snoc _ s[i] s[i + 1] (s.data.toList.drop (i + 2)) T hun
            rw [← hfull] at hsn
            have hsn2 := unhex_snoc _ s[i] s[i + 1] [] T hun
            rw [← take_two hlt1] at hsn2
            clear hfull
            have ix0 := fun W => idx_at s i (by omega) (i : Int) rfl W
            have ix1 := fun W => idx_at s (i + 1) hlt1 ((i : Int) + 1) (by omega) W
            have hva := fun W => half_any s[i] W
            have hvb := fun W => half_any s[i + 1] W
            generalize s[i] = ca at *
            generalize s[i + 1] = cb at *
            cases ha : halfL ca with
            | none =>
              rw [ha] at hva hsn
              have hRn : R = none := by rw [hb0, hsn]; rfl
              subst hRn
              generalize halfL cb = hb' at *
              clear hsn hsn2 hb0
              go_wp2_with (go_at_call 54; first | (with_reducible refine (hva _).mono ?_; rintro e w1 ⟨rfl, hw⟩; obtain rfl := hw) | (with_reducible refine (hvb _).mono ?_; rintro e w1 ⟨rfl, hw⟩; obtain rfl := hw))
              go_ret2
              exact ⟨rfl, hb⟩
            | some x =>
              have hx := halfL_lt ha
              rw [ha] at hva hsn hsn2
              cases hbn : halfL cb with
              | none =>
                rw [hbn] at hvb hsn
                have hRn : R = none := by rw [hb0, hsn]; rfl
                subst hRn
                clear hsn hsn2 hb0
                go_wp2_with (go_at_call 54; first | (with_reducible refine (hva _).mono ?_; rintro e w1 ⟨rfl, hw⟩; obtain rfl := hw) | (with_reducible refine (hvb _).mono ?_; rintro e w1 ⟨rfl, hw⟩; obtain rfl := hw))
                go_ret2
                exact ⟨rfl, hb⟩
              | some y =>
                have hy := halfL_lt hbn
                rw [hbn] at hvb hsn2
                have hsn3 : unhex (s.data.toList.take (i + 2)) = some (T ++ [UInt8.ofNat (16 * x + y)]) := hsn2
                clear hsn hsn2
                have hbit := or_half x y hx hy
                generalize UInt8.ofNat (16 * x + y) = B at hbit hsn3
                go_wp2_with (first
                  | (go_at_call 54; first | (with_reducible refine (hva _).mono ?_; rintro e w1 ⟨rfl, hw⟩; obtain rfl := hw) | (with_reducible refine (hvb _).mono ?_; rintro e w1 ⟨rfl, hw⟩; obtain rfl := hw))
                  | (at_builtin; go_loud (refine wpList_append_lies _ rfl _ _ 67 rfl w.heap.size 5 i0 (.int .u8 0) 1 1 Tryd.underlying67 hi0 hz0 hz1 hz2 rfl (by decide) _ _ _ rfl (hrow.alloc _) ⟨wr.heap.size, 0, none⟩ 1 1 [Value.int .u8 (B.toNat : Int)] rfl rfl (cells_new wr _ _) (by simp [Value.oneCell']) (by decide) (by unfold maxLen; omega) (by omega) (by have := hb.size; simp; omega) (wr.heap.size + 1) (by simp) ?_); intro g cg w3 hown' hg3 hat hgl))
                go_roundg g'
                case measure => omega
                case rel => exact ⟨i + 2, T ++ [B], rfl, by rw [List.length_append, byV_snoc]; exact hown', by omega, by omega, by rw [List.length_append]; simp; omega, hsn3, (hb.alloc hb.size _).grown hg3 (by have := hb.size; simp; omega) (fun j hj => (hrow.lt j hj).1)⟩
          · obtain rfl : i = s.size := by omega
            have htl : s.data.toList.take s.size = s.data.toList := by rw [← size_list, List.take_length]
            rw [htl] at hun
            have hRn : R = some T := hb0.trans hun
            subst hRn
            rcases hrow.2 with ⟨rfl, hz⟩ | ⟨g, c6, cur, rfl, hbase, hgg, q1, q2, q3, q4⟩
            · omega
            · have hcv : (convert 67 9 (.slice (some ⟨g, 0, none⟩) T.length c6)).run Tryd.prog wr = .ok (.string (tx T)) wr :=
                run_convert_bytes_back _ _ _ 5 _ _ T Tryd.underlying67 Tryd.underlying5 Tryd.underlying9 (fun j hj => row_cells hgg q1 q3 q4 j _ (by unfold byV; rw [List.getElem?_map, List.getElem?_eq_getElem hj]; rfl))
              go_wp2
              go_ret2
              exact ⟨rfl, hb⟩
      · have h1 : s.size % 2 = 1 := by omega
        rw [h1] at htm
        have hRn : bytesL s.data.toList = none := by
          rw [hb0]
          cases hu : unhex s.data.toList with
          | none => rfl
          | some t => have := unhex_len _ _ hu; rw [size_list] at this; omega
        rw [hRn]
        go_enter Tryd.func46, Tryd.ntmps46
        go_wp2
        go_ret2
        exact ⟨rfl, Below.refl _ _⟩
end Go.Proofs.YtdhdkfnmbdejbaaDoor
